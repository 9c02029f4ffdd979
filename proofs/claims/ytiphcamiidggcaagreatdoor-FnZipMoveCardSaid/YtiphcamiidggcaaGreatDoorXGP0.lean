/- What each function of the program computes, as a plain function (printed by a program of this work out of the form of the program). Conditions: none. -/
import Derived.Test.YtiphcamiidggcaaGreatDoorXGS0
set_option linter.unusedVariables false
set_option linter.unusedSimpArgs false
section
open Go
set_option maxRecDepth 100000
namespace Ev
set_option maxHeartbeats 1000000
def ZbA (n:Int) (low:Int) (high:Int):Option (Bool):=
 ((bif (decide (n≥low)) then (some (decide (n≤high))) else
 (some false)).bind fun c=>
 (some c))
def Zdl.l0.step (again:(Str×Int×Int)→Option ((Str)⊕(Bool))):(Str×Int×Int)→Option ((Str)⊕(Bool)):=fun (s1,t,t1)=>
 (bif (decide (t1<t)) then (need (decide (0≤t1)&&decide (t1<s1.length)) ((bif (decide (((s1.getD t1.toNat 0).toNat:Int)<97)) then (bif (decide (((s1.getD t1.toNat 0).toNat:Int)<48)) then (bif (((s1.getD t1.toNat 0).toNat:Int) != 46) then (bif (((s1.getD t1.toNat 0).toNat:Int) != 45) then (some (((s1.getD t1.toNat 0).toNat:Int) != 95)) else
 (some false)) else
 (some false)) else
 (bif (decide (((s1.getD t1.toNat 0).toNat:Int)>57)) then (bif (((s1.getD t1.toNat 0).toNat:Int) != 46) then (bif (((s1.getD t1.toNat 0).toNat:Int) != 45) then (some (((s1.getD t1.toNat 0).toNat:Int) != 95)) else
 (some false)) else
 (some false)) else
 (some false))) else
 (bif (decide (((s1.getD t1.toNat 0).toNat:Int)>122)) then (bif (decide (((s1.getD t1.toNat 0).toNat:Int)<48)) then (bif (((s1.getD t1.toNat 0).toNat:Int) != 46) then (bif (((s1.getD t1.toNat 0).toNat:Int) != 45) then (some (((s1.getD t1.toNat 0).toNat:Int) != 95)) else
 (some false)) else
 (some false)) else
 (bif (decide (((s1.getD t1.toNat 0).toNat:Int)>57)) then (bif (((s1.getD t1.toNat 0).toNat:Int) != 46) then (bif (((s1.getD t1.toNat 0).toNat:Int) != 45) then (some (((s1.getD t1.toNat 0).toNat:Int) != 95)) else
 (some false)) else
 (some false)) else
 (some false))) else
 (some false))).bind fun c=>
 (bif c then ((some false).map Sum.inr) else
 (again (s1,t,(w64 (t1+1))))))) else
 (some (.inl s1)))
def Zdl.l0:=ZaC Zdl.l0.step
theorem Zdl.l0.succ (n:Nat) t:Zdl.l0 (n+1) t=Zdl.l0.step (Zdl.l0 n) t:=rfl
def Zdl (s:Str):Option (Bool):=
 ((Zdl.l0 (((s.length:Int)-(0:Int)).toNat+1) (s,(s.length:Int),0)).bind fun r=>match r with
 | .inl s2=>(((ZbA (s2.length:Int) 1 10).bind fun within_=>
 (bif within_ then (bif (!(s2==[46])) then (some (!(s2==[46,46]))) else
 (some false)) else
 (some false))).bind fun c1=>
 (some c1))
 | .inr r=>some r)
def ZhH (n:Int) (low:Int) (high:Int):Option (Bool):=
 ((bif (decide (n≥low)) then (some (decide (n≤high))) else
 (some false)).bind fun c=>
 (some c))
def Ze7.l0.step (again:(Str×Int×Int×Int×Int×List Str)→Option (Str×Int×List Str)):(Str×Int×Int×Int×Int×List Str)→Option (Str×Int×List Str):=fun (s1,b1,most1,from_,i,out)=>
 ((bif (decide (i<(s1.length:Int))) then (some (decide ((out.length:Int)<most1))) else
 (some false)).bind fun c=>
 (bif c then (need (decide (0≤i)&&decide (i<s1.length)) (bif (((s1.getD i.toNat 0).toNat:Int)==b1) then (need (decide (0≤i)&&decide (i≤s1.length)) (need (decide (0≤from_)&&decide (from_≤i)) (need (fits (out.length+([((s1.take i.toNat).drop from_.toNat)]:List (Str)).length)) (again (s1,b1,most1,(w64 (i+1)),(w64 (i+1)),(out++[((s1.take i.toNat).drop from_.toNat)])))))) else
 (again (s1,b1,most1,from_,(w64 (i+1)),out)))) else
 (some (s1,from_,out))))
def Ze7.l0:=ZaC Ze7.l0.step
theorem Ze7.l0.succ (n:Nat) t:Ze7.l0 (n+1) t=Ze7.l0.step (Ze7.l0 n) t:=rfl
def Ze7 (s:Str) (b:Int) (most:Int):Option (List Str):=
 ((Ze7.l0 (((s.length:Int)-(0:Int)).toNat+1) (s,b,most,0,0,[])).bind fun (s2,from_1,out1)=>
 (need (decide (0≤from_1)&&decide (from_1≤s2.length)) (need (fits (out1.length+([(s2.drop from_1.toNat)]:List (Str)).length)) (some (out1++[(s2.drop from_1.toNat)])))))
def Zaq.l0.step (again:(Int×Str×Int×List Str)→Option ((Int×Str×List Str)⊕((List Str)⊕(Bool)))):(Int×Str×Int×List Str)→Option ((Int×Str×List Str)⊕((List Str)⊕(Bool))):=fun (i1,w,k,list1)=>
 (bif (decide (k<(w.length:Int))) then ((need (decide (0≤k)&&decide (k<w.length)) (bif (decide (((w.getD k.toNat 0).toNat:Int)≥97)) then (need (decide (0≤k)&&decide (k<w.length)) (bif (decide (((w.getD k.toNat 0).toNat:Int)≤122)) then (some (!true)) else
 (need (decide (0≤k)&&decide (k<w.length)) (bif (decide (((w.getD k.toNat 0).toNat:Int)≥48)) then (need (decide (0≤k)&&decide (k<w.length)) (bif (decide (((w.getD k.toNat 0).toNat:Int)≤57)) then (some (!true)) else
 (need (decide (0≤k)&&decide (k<w.length)) (bif (((w.getD k.toNat 0).toNat:Int)==46) then (some (!true)) else
 (need (decide (0≤k)&&decide (k<w.length)) (bif (((w.getD k.toNat 0).toNat:Int)==45) then (some (!true)) else
 (need (decide (0≤k)&&decide (k<w.length)) (some (!(((w.getD k.toNat 0).toNat:Int)==95)))))))))) else
 (need (decide (0≤k)&&decide (k<w.length)) (bif (((w.getD k.toNat 0).toNat:Int)==46) then (some (!true)) else
 (need (decide (0≤k)&&decide (k<w.length)) (bif (((w.getD k.toNat 0).toNat:Int)==45) then (some (!true)) else
 (need (decide (0≤k)&&decide (k<w.length)) (some (!(((w.getD k.toNat 0).toNat:Int)==95)))))))))))) else
 (need (decide (0≤k)&&decide (k<w.length)) (bif (decide (((w.getD k.toNat 0).toNat:Int)≥48)) then (need (decide (0≤k)&&decide (k<w.length)) (bif (decide (((w.getD k.toNat 0).toNat:Int)≤57)) then (some (!true)) else
 (need (decide (0≤k)&&decide (k<w.length)) (bif (((w.getD k.toNat 0).toNat:Int)==46) then (some (!true)) else
 (need (decide (0≤k)&&decide (k<w.length)) (bif (((w.getD k.toNat 0).toNat:Int)==45) then (some (!true)) else
 (need (decide (0≤k)&&decide (k<w.length)) (some (!(((w.getD k.toNat 0).toNat:Int)==95)))))))))) else
 (need (decide (0≤k)&&decide (k<w.length)) (bif (((w.getD k.toNat 0).toNat:Int)==46) then (some (!true)) else
 (need (decide (0≤k)&&decide (k<w.length)) (bif (((w.getD k.toNat 0).toNat:Int)==45) then (some (!true)) else
 (need (decide (0≤k)&&decide (k<w.length)) (some (!(((w.getD k.toNat 0).toNat:Int)==95)))))))))))).bind fun c=>
 (bif c then (((some false).map Sum.inr).map Sum.inr) else
 (again (i1,w,(w64 (k+1)),list1)))) else
 (some (.inl (i1,w,list1))))
def Zaq.l0:=ZaC Zaq.l0.step
theorem Zaq.l0.succ (n:Nat) t:Zaq.l0 (n+1) t=Zaq.l0.step (Zaq.l0 n) t:=rfl
def Zaq.l1.step (again:(Int×List Str)→Option ((List Str)⊕(Bool))):(Int×List Str)→Option ((List Str)⊕(Bool)):=fun (i,list)=>
 (bif (decide (i<(list.length:Int))) then (need (decide (0≤i)&&decide (i<list.length)) ((Zaq.l0 ((((list.getD i.toNat []).length:Int)-(0:Int)).toNat+1) (i,(list.getD i.toNat []),0,list)).bind fun r=>match r with
 | .inl (i2,w1,list2)=>(((ZhH (w1.length:Int) 1 10).bind fun l1In_=>
 (bif (!l1In_) then (some true) else
 (bif (w1==[46]) then (some true) else
 (some (w1==[46,46]))))).bind fun c1=>
 (bif c1 then ((some false).map Sum.inr) else
 (again ((w64 (i2+1)),list2))))
 | .inr r=>some r)) else
 (some (.inl list)))
def Zaq.l1:=ZaC Zaq.l1.step
theorem Zaq.l1.succ (n:Nat) t:Zaq.l1 (n+1) t=Zaq.l1.step (Zaq.l1 n) t:=rfl
def Zaq (s:Str):Option (Bool):=
 ((Ze7 s 47 (w64 ((s.length:Int)+1))).bind fun l1Cut_=>
 ((Zaq.l1 (((l1Cut_.length:Int)-(0:Int)).toNat+1) (0,l1Cut_)).bind fun r=>match r with
 | .inl list3=>(some (decide ((list3.length:Int)≤4)))
 | .inr r=>some r))
def ZdA (a:Str) (b:Str):Option (Bool):=
 ((bif (decide ((b.length:Int)>(a.length:Int))) then (need (decide (0≤(a.length:Int))&&decide ((a.length:Int)≤b.length)) (bif ((b.take (a.length:Int).toNat)==a) then (need (decide (0≤(a.length:Int))&&decide ((a.length:Int)<b.length)) (some (((b.getD (a.length:Int).toNat 0).toNat:Int)==47))) else
 (some false))) else
 (some false)).bind fun c=>
 (some c))
def ZcP (s:Str) (p:Str):Option (Bool):=
 ((bif (decide ((s.length:Int)≥(p.length:Int))) then (need (decide (0≤(p.length:Int))&&decide ((p.length:Int)≤s.length)) (some ((s.take (p.length:Int).toNat)==p))) else
 (some false)).bind fun c=>
 (some c))
def ZcU (s:Str) (p:Str):Option (Bool):=
 ((ZcP s p).bind fun HasPrefi=>
 (some HasPrefi))
def Zcw (s:Str) (c:Int):Option (Int):=some (idxB s c)
def ZdY (s:Str) (c:Int):Option (Int):=some (cntB s c)
def ZcO (s:Str) (c:Int):Option (Int):=
 ((Zcw s c).bind fun IndexByt=>
 (some IndexByt))
def Ze8 (s:Str):Option (Int):=
 ((some (([47]:Str)==s)).bind fun c=>
 (bif c then (some 0) else
 ((ZcO s 47).bind fun IndexByt=>
 (some IndexByt))))
def Zgt (s:Str):Option (Int):=
 ((Ze8 s).bind fun Index=>
 (some Index))
def Zg6 (s:Str):Option (Int):=
 ((ZdY s 47).bind fun CountStr=>
 (some CountStr))
def Zbi.l0.step (again:(Str×Int×Int×List Str)→Option (Str×Int×List Str)):(Str×Int×Int×List Str)→Option (Str×Int×List Str):=fun (s2,n1,i,a)=>
 (bif (decide (i<n1)) then ((Zgt s2).bind fun Index=>
 (bif (decide (Index<0)) then (some (s2,i,a)) else
 (need (decide (0≤(w64 (Index+0)))&&decide ((w64 (Index+0))≤s2.length)) (need (decide (0≤i)&&decide (i<a.length)) (need (decide (0≤(w64 (Index+1)))&&decide ((w64 (Index+1))≤s2.length)) (again ((s2.drop (w64 (Index+1)).toNat),n1,(w64 (i+1)),(a.set i.toNat (s2.take (w64 (Index+0)).toNat))))))))) else
 (some (s2,i,a)))
def Zbi.l0:=ZaC Zbi.l0.step
theorem Zbi.l0.succ (n:Nat) t:Zbi.l0 (n+1) t=Zbi.l0.step (Zbi.l0 n) t:=rfl
def Zbi (s:Str):Option (List Str):=
 ((((Zg6 s).bind fun Count=>
 (some (s,(w64 (Count+1))))):Option (Str×Int)).bind fun (s1,n)=>
 (need (decide (0≤(Zqo n (w64 ((s1.length:Int)+1))))&&fits (Zqo n (w64 ((s1.length:Int)+1))).toNat) ((Zbi.l0 (((w64 ((Zqo n (w64 ((s1.length:Int)+1)))-1))-(0:Int)).toNat+1) (s1,(w64 ((Zqo n (w64 ((s1.length:Int)+1)))-1)),0,(List.replicate (Zqo n (w64 ((s1.length:Int)+1))).toNat ([]:Str)))).bind fun (s3,i1,a1)=>
 (need (decide (0≤i1)&&decide (i1<a1.length)) (need (decide (0≤(w64 (i1+1)))&&decide ((w64 (i1+1))≤(a1.set i1.toNat s3).length)) (some (((a1.set i1.toNat s3).drop 0).take ((w64 (i1+1)).toNat))))))))
def Zgl (s:Str):Option (List Str):=
 ((Zbi s).bind fun genSplit=>
 (some genSplit))
def ZaO.l0.step (again:(List Str×List Str×Int×Int)→Option ((List Str)⊕(Bool))):(List Str×List Str×Int×Int)→Option ((List Str)⊕(Bool)):=fun (parts,t,t1,t2)=>
 (bif (decide (t2<t1)) then (need (decide (0≤t2)&&decide (t2<t.length)) ((Zdl (t.getD t2.toNat [])).bind fun partOk_=>
 (bif (!partOk_) then ((some false).map Sum.inr) else
 (again (parts,t,t1,(w64 (t2+1))))))) else
 (some (.inl parts)))
def ZaO.l0:=ZaC ZaO.l0.step
theorem ZaO.l0.succ (n:Nat) t:ZaO.l0 (n+1) t=ZaO.l0.step (ZaO.l0 n) t:=rfl
def ZaO (s:Str):Option (Bool):=
 ((Zgl s).bind fun Split=>
 ((ZaO.l0 (((Split.length:Int)-(0:Int)).toNat+1) (Split,Split,(Split.length:Int),0)).bind fun r=>match r with
 | .inl parts1=>(some (decide ((parts1.length:Int)≤4)))
 | .inr r=>some r))
def ZcQ.l0.step (again:(List Str×Str×List Str×Int×Int×List Str×Int×Int)→Option ((List Str×List Str×Int×Int)⊕((Unit)⊕(Bool)))):(List Str×Str×List Str×Int×Int×List Str×Int×Int)→Option ((List Str×List Str×Int×Int)⊕((Unit)⊕(Bool))):=fun (names1,a,t3,t4,t5,t6,t7,t8)=>
 (bif (decide (t8<t7)) then (need (decide (0≤t8)&&decide (t8<t6.length)) ((bif (a==(t6.getD t8.toNat [])) then (some true) else
 (need (fits ((t6.getD t8.toNat []).length+([47]:Str).length)) ((ZcU a ((t6.getD t8.toNat [])++[47])).bind fun HasPrefi=>
 (bif HasPrefi then (some true) else
 (need (fits (a.length+([47]:Str).length)) ((ZcU (t6.getD t8.toNat []) (a++[47])).bind fun HasPrefi1=>
 (some HasPrefi1))))))).bind fun c=>
 (bif c then (((some false).map Sum.inr).map Sum.inr) else
 (again (names1,a,t3,t4,t5,t6,t7,(w64 (t8+1))))))) else
 (some (.inl (names1,t3,t4,t5))))
def ZcQ.l0:=ZaC ZcQ.l0.step
theorem ZcQ.l0.succ (n:Nat) t:ZcQ.l0 (n+1) t=ZcQ.l0.step (ZcQ.l0 n) t:=rfl
def ZcQ.l1.step (again:(List Str×List Str×Int×Int)→Option ((Unit)⊕(Bool))):(List Str×List Str×Int×Int)→Option ((Unit)⊕(Bool)):=fun (names,t,t1,t2)=>
 (bif (decide (t2<t1)) then (need (decide (0≤t2)&&decide (t2<t.length)) (need (decide (0≤t2)&&decide (t2≤names.length)) ((ZcQ.l0 ((((names.take t2.toNat).length:Int)-(0:Int)).toNat+1) (names,(t.getD t2.toNat []),t,t1,t2,(names.take t2.toNat),((names.take t2.toNat).length:Int),0)).bind fun r=>match r with
 | .inl (names2,t9,t10,t11)=>(again (names2,t9,t10,(w64 (t11+1))))
 | .inr r=>some r))) else
 (some (.inl ())))
def ZcQ.l1:=ZaC ZcQ.l1.step
theorem ZcQ.l1.succ (n:Nat) t:ZcQ.l1 (n+1) t=ZcQ.l1.step (ZcQ.l1 n) t:=rfl
def ZcQ (xs:List Str):Option (Bool):=
 ((ZcQ.l1 (((xs.length:Int)-(0:Int)).toNat+1) (xs,xs,(xs.length:Int),0)).bind fun r=>match r with
 | .inl _=>(some true)
 | .inr r=>some r)
def ZeE (num:Int) (bits:Int):Option (Bool):=
 (((ZbA bits 0 16).bind fun within_=>
 (bif within_ then (need (decide (0≤bits)) ((ZbA num 0 (w64 ((Zsu .i64 1 bits)-1))).bind fun within_1=>
 (some within_1))) else
 (some false))).bind fun c=>
 (some c))
def Zff.l0.step (again:(Int×Int×Int×Int×List Int)→Option (Int×List Int)):(Int×Int×Int×Int×List Int)→Option (Int×List Int):=fun (num1,t,t1,o,o1)=>
 (bif (decide (t1<t)) then (((bif ((o.tmod 8)==0) then (need (fits (o1.length+([0]:List (Int)).length)) (some (num1,t1,t,t1,o,(o1++[0])))) else
 (some (num1,t1,t,t1,o,o1))):Option (Int×Int×Int×Int×Int×List Int)).bind fun (num2,k,t2,t3,o2,o3)=>
 (need (decide (0≤(w64 (o2.tdiv 8)))&&decide ((w64 (o2.tdiv 8))<o3.length)) (need (decide (0≤k)) (need (decide (0≤(o2.tmod 8))) (need (decide (0≤(w64 (o2.tdiv 8)))&&decide ((w64 (o2.tdiv 8))<o3.length)) (again (num2,t2,(w64 (t3+1)),(w64 (o2+1)),(o3.set ((w64 (o2.tdiv 8)).toNat) (ior .u8 (o3.getD ((w64 (o2.tdiv 8)).toNat) 0) (IntKind.wrap .u8 (Zsu .i64 (Zlp .i64 (ZnI .i64 num2 k) 1) (o2.tmod 8)))))))))))) else
 (some (o,o1)))
def Zff.l0:=ZaC Zff.l0.step
theorem Zff.l0.succ (n:Nat) t:Zff.l0 (n+1) t=Zff.l0.step (Zff.l0 n) t:=rfl
def Zff (num:Int) (bits:Int) (many:Int) (b:List Int):Option (Int×List Int):=
 ((Zff.l0 ((bits-(0:Int)).toNat+1) (num,bits,0,many,b)).bind fun (o4,o5)=>
 (some (o4,o5)))
def Zkc (many:Int) (b:List Int):Option (Int×List Int):=
 (some ((w64 (8*(b.length:Int))),b))
def Zi0 (s:Str) (at_:Int) (bad:Bool):Option (Int×Str×Int×Bool):=
 (bif (decide (at_≥(w64 (8*(s.length:Int))))) then (some (0,s,at_,true)) else
 (need (decide (0≤(w64 (at_.tdiv 8)))&&decide ((w64 (at_.tdiv 8))<s.length)) (need (decide (0≤(at_.tmod 8))) (some ((Zlp .i64 (ZnI .i64 (w64 ((s.getD (w64 (at_.tdiv 8)).toNat 0).toNat:Int)) (at_.tmod 8)) 1),s,(w64 (at_+1)),bad)))))
def Zfi.l0.step (again:(Int×Int×Int×Str×Int×Bool)→Option (Int×Str×Int×Bool)):(Int×Int×Int×Str×Int×Bool)→Option (Int×Str×Int×Bool):=fun (n,t,t1,o,o1,o2)=>
 (bif (decide (t1<t)) then ((Zi0 o o1 o2).bind fun (r,r1,r2,r3)=>
 (need (decide (0≤t1)) (again ((ior .i64 n (Zsu .i64 r t1)),t,(w64 (t1+1)),r1,r2,r3)))) else
 (some (n,o,o1,o2)))
def Zfi.l0:=ZaC Zfi.l0.step
theorem Zfi.l0.succ (n:Nat) t:Zfi.l0 (n+1) t=Zfi.l0.step (Zfi.l0 n) t:=rfl
def Zfi (bits:Int) (s:Str) (at_:Int) (bad:Bool):Option (Int×Str×Int×Bool):=
 ((Zfi.l0 ((bits-(0:Int)).toNat+1) (0,bits,0,s,at_,bad)).bind fun (n1,o3,o4,o5)=>
 (some (n1,o3,o4,o5)))
def Zez.l0.step (again:(Str×Int×Bool)→Option (Str×Int×Bool)):(Str×Int×Bool)→Option (Str×Int×Bool):=fun (o,o1,o2)=>
 (bif ((o1.tmod 8) != 0) then ((Zi0 o o1 o2).bind fun (r,r1,r2,r3)=>
 (bif (r != 0) then (again (r1,r2,true)) else
 (again (r1,r2,r3)))) else
 (some (o,o1,o2)))
def Zez.l0:=ZaC Zez.l0.step
theorem Zez.l0.succ (n:Nat) t:Zez.l0 (n+1) t=Zez.l0.step (Zez.l0 n) t:=rfl
def Zez (s:Str) (at_:Int) (bad:Bool):Option (Str×Int×Bool):=
 ((Zez.l0 (9) (s,at_,bad)).bind fun (o3,o4,o5)=>
 (some (o3,o4,o5)))
def ZbE.l0.step (again:(Int×Int×Int×Int)→Option (Int)):(Int×Int×Int×Int)→Option (Int):=fun (num1,out,t,t1)=>
 (bif (decide (t1<t)) then (need (decide (0≤t1)) (again (num1,(w64 ((w64 (2*out))+(Zlp .i64 (ZnI .i64 num1 t1) 1))),t,(w64 (t1+1))))) else
 (some out))
def ZbE.l0:=ZaC ZbE.l0.step
theorem ZbE.l0.succ (n:Nat) t:ZbE.l0 (n+1) t=ZbE.l0.step (ZbE.l0 n) t:=rfl
def ZbE (num:Int) (bits:Int):Option (Int):=
 ((ZeE num bits).bind fun pieceOk_=>
 (bif (!pieceOk_) then (some (-1)) else
 ((ZbE.l0 ((bits-(0:Int)).toNat+1) (num,0,bits,0)).bind fun out1=>
 (some out1))))
def ZaH.l0.step (again:(Int×Str×Int×Int)→Option (Int×Str×Int)):(Int×Str×Int×Int)→Option (Int×Str×Int):=fun (crc_2,text2,k1,t)=>
 (bif (decide (t<8)) then (again ((ZlS .u32 (ZnI .u32 crc_2 1) (IntKind.wrap .u32 (3988292384*(Zlp .u32 crc_2 1)))),text2,k1,(w64 (t+1)))) else
 (some (crc_2,text2,k1)))
def ZaH.l0:=ZaC ZaH.l0.step
theorem ZaH.l0.succ (n:Nat) t:ZaH.l0 (n+1) t=ZaH.l0.step (ZaH.l0 n) t:=rfl
def ZaH.l1.step (again:(Int×Str×Int)→Option (Int)):(Int×Str×Int)→Option (Int):=fun (crc_1,text1,k)=>
 (bif (decide (k<(text1.length:Int))) then (need (decide (0≤k)&&decide (k<text1.length)) ((ZaH.l0 ((8-(0:Int)).toNat+1) ((ZlS .u32 crc_1 (IntKind.wrap .u32 ((text1.getD k.toNat 0).toNat:Int))),text1,k,0)).bind fun (crc_3,text3,k2)=>
 (again (crc_3,text3,(w64 (k2+1)))))) else
 (some crc_1))
def ZaH.l1:=ZaC ZaH.l1.step
theorem ZaH.l1.succ (n:Nat) t:ZaH.l1 (n+1) t=ZaH.l1.step (ZaH.l1 n) t:=rfl
def ZaH (crc_:Int) (text:Str):Option (Int):=
 ((ZaH.l1 (((text.length:Int)-(0:Int)).toNat+1) ((ZlS .u32 (IntKind.max .u32) crc_),text,0)).bind fun crc_4=>
 (some (ZlS .u32 (IntKind.max .u32) crc_4)))
def crc (text:Str):Option (Int):=
 ((ZaH 0 text).bind fun crcUpdat=>
 (some (w64 crcUpdat)))
def Zcn.l0.step (again:(Int×Int×Int×List Int×Int×Int)→Option ((Int×Int×Int)⊕(Bool))):(Int×Int×Int×List Int×Int×Int)→Option ((Int×Int×Int)⊕(Bool)):=fun (sum,many,last,t,t1,t2)=>
 (bif (decide (t2<t1)) then (need (decide (0≤t2)&&decide (t2<t.length)) ((ZbA (t.getD t2.toNat 0) 0 15).bind fun within_=>
 (bif (!within_) then ((some false).map Sum.inr) else
 (bif (decide ((t.getD t2.toNat 0)>0)) then (need (decide (0≤(w64 (15-(t.getD t2.toNat 0))))) (again ((w64 (sum+(Zsu .i64 1 (w64 (15-(t.getD t2.toNat 0)))))),(w64 (many+1)),(t.getD t2.toNat 0),t,t1,(w64 (t2+1))))) else
 (again (sum,many,last,t,t1,(w64 (t2+1)))))))) else
 (some (.inl (sum,many,last))))
def Zcn.l0:=ZaC Zcn.l0.step
theorem Zcn.l0.succ (n:Nat) t:Zcn.l0 (n+1) t=Zcn.l0.step (Zcn.l0 n) t:=rfl
def Zcn (lens:List Int):Option (Bool):=
 (bif (decide ((lens.length:Int)>300)) then (some false) else
 ((Zcn.l0 (((lens.length:Int)-(0:Int)).toNat+1) (0,0,0,lens,(lens.length:Int),0)).bind fun r=>match r with
 | .inl (sum1,many1,last1)=>((bif (sum1==32768) then (some true) else
 (bif (many1==1) then (some (last1==1)) else
 (some false))).bind fun c=>
 (some c))
 | .inr r=>some r))
def ZcM.l0.step (again:(List Int×Int×Int×List Int×Int×Int×List Int)→Option (List Int×Int×Int×List Int)):(List Int×Int×Int×List Int×Int×Int×List Int)→Option (List Int×Int×Int×List Int):=fun (lens2,next_1,l1,t,t1,t2,out1)=>
 (bif (decide (t2<t1)) then (need (decide (0≤t2)&&decide (t2<t.length)) (bif ((t.getD t2.toNat 0)==l1) then (need (decide (0≤t2)&&decide (t2<out1.length)) (again (lens2,(w64 (next_1+1)),l1,t,t1,(w64 (t2+1)),(out1.set t2.toNat next_1)))) else
 (again (lens2,next_1,l1,t,t1,(w64 (t2+1)),out1)))) else
 (some (lens2,next_1,l1,out1)))
def ZcM.l0:=ZaC ZcM.l0.step
theorem ZcM.l0.succ (n:Nat) t:ZcM.l0 (n+1) t=ZcM.l0.step (ZcM.l0 n) t:=rfl
def ZcM.l1.step (again:(List Int×Int×Int×List Int)→Option (List Int)):(List Int×Int×Int×List Int)→Option (List Int):=fun (lens1,next_,l,out)=>
 (bif (decide (l≤15)) then ((ZcM.l0 (((lens1.length:Int)-(0:Int)).toNat+1) (lens1,next_,l,lens1,(lens1.length:Int),0,out)).bind fun (lens3,next_2,l2,out2)=>
 (again (lens3,(w64 (next_2*2)),(w64 (l2+1)),out2))) else
 (some out))
def ZcM.l1:=ZaC ZcM.l1.step
theorem ZcM.l1.succ (n:Nat) t:ZcM.l1 (n+1) t=ZcM.l1.step (ZcM.l1 n) t:=rfl
def ZcM (lens:List Int):Option (List Int):=
 (need (decide (0≤(lens.length:Int))&&fits (lens.length:Int).toNat) ((ZcM.l1 ((15-(1:Int)).toNat+2) (lens,0,1,(List.replicate (lens.length:Int).toNat (0:Int)))).bind fun out3=>
 (some out3)))
def Za4.l0.step (again:((List (Int×List Int))×Int×(List (Int×List Int))×Int×Int×Int×List Int)→Option ((List (Int×List Int))×Int×Int×List Int)):((List (Int×List Int))×Int×(List (Int×List Int))×Int×Int×Int×List Int)→Option ((List (Int×List Int))×Int×Int×List Int):=fun (list1,at_,t,t1,t2,o,o1)=>
 (bif (decide (t2<t1)) then (need (decide (0≤t2)&&decide (t2<t.length)) ((need (decide (0≤at_)&&decide (at_<list1.length)) (bif (decide ((t.getD t2.toNat (0,[])).1<(list1.getD at_.toNat (0,[])).1)) then (some true) else
 (need (decide (0≤at_)&&decide (at_<list1.length)) (bif ((t.getD t2.toNat (0,[])).1==(list1.getD at_.toNat (0,[])).1) then (need (decide (0≤(0:Int))&&decide ((0:Int)<((t.getD t2.toNat (0,[])).2).length)) (need (decide (0≤at_)&&decide (at_<list1.length)) (need (decide (0≤(0:Int))&&decide ((0:Int)<((list1.getD at_.toNat (0,[])).2).length)) (some (decide ((((t.getD t2.toNat (0,[])).2).getD 0 0)<(((list1.getD at_.toNat (0,[])).2).getD 0 0))))))) else
 (some false))))).bind fun c=>
 (bif c then (again (list1,t2,t,t1,(w64 (t2+1)),o,o1)) else
 (again (list1,at_,t,t1,(w64 (t2+1)),o,o1))))) else
 (some (list1,at_,o,o1)))
def Za4.l0:=ZaC Za4.l0.step
theorem Za4.l0.succ (n:Nat) t:Za4.l0 (n+1) t=Za4.l0.step (Za4.l0 n) t:=rfl
def Za4 (list:List (Int×List Int)):Option (Int×List Int×List (Int×List Int)):=
 ((Za4.l0 (((list.length:Int)-(0:Int)).toNat+1) (list,0,list,(list.length:Int),0,0,[])).bind fun (list2,at_1,o2,o3)=>
 (need (decide (0≤at_1)&&decide (at_1<list2.length)) (need (decide (0≤at_1)&&decide (at_1≤list2.length)) (need (fits (([]:List (Int×List Int)).length+(list2.take at_1.toNat).length)) (need (decide (0≤(w64 (at_1+1)))&&decide ((w64 (at_1+1))≤list2.length)) (need (fits (([]++(list2.take at_1.toNat)).length+(list2.drop (w64 (at_1+1)).toNat).length)) (some ((list2.getD at_1.toNat (0,[])).1,(list2.getD at_1.toNat (0,[])).2,(([]++(list2.take at_1.toNat))++(list2.drop (w64 (at_1+1)).toNat))))))))))
def Zbl.l1.step (again:(Int×Int×List Int×Int×List Int×Int×List Int×(List (Int×List Int))×List Int)→Option (List Int×Int×List Int×Int×List Int×(List (Int×List Int))×List Int)):(Int×Int×List Int×Int×List Int×Int×List Int×(List (Int×List Int))×List Int)→Option (List Int×Int×List Int×Int×List Int×(List (Int×List Int))×List Int):=fun (t3,t4,out3,o,o1,o2,o3,left,o4)=>
 (bif (decide (t4<t3)) then (need (decide (0≤t4)&&decide (t4<o4.length)) (need (decide (0≤(o4.getD t4.toNat 0))&&decide ((o4.getD t4.toNat 0)<out3.length)) (need (decide (0≤(o4.getD t4.toNat 0))&&decide ((o4.getD t4.toNat 0)<out3.length)) (need (decide (0≤(0:Int))&&decide ((0:Int)<o4.length)) (bif (decide ((o4.getD t4.toNat 0)<(o4.getD 0 0))) then (need (decide (0≤(0:Int))&&decide ((0:Int)<o4.length)) (need (decide (0≤(0:Int))&&decide ((0:Int)<o4.length)) (need (decide (0≤t4)&&decide (t4<(o4.set 0 (o4.getD t4.toNat 0)).length)) (again (t3,(w64 (t4+1)),(out3.set ((o4.getD t4.toNat 0).toNat) (w64 ((out3.getD ((o4.getD t4.toNat 0).toNat) 0)+1))),o,o1,o2,o3,left,((o4.set 0 (o4.getD t4.toNat 0)).set t4.toNat (o4.getD 0 0))))))) else
 (again (t3,(w64 (t4+1)),(out3.set ((o4.getD t4.toNat 0).toNat) (w64 ((out3.getD ((o4.getD t4.toNat 0).toNat) 0)+1))),o,o1,o2,o3,left,o4))))))) else
 (some (out3,o,o1,o2,o3,left,o4)))
def Zbl.l1:=ZaC Zbl.l1.step
theorem Zbl.l1.succ (n:Nat) t:Zbl.l1 (n+1) t=Zbl.l1.step (Zbl.l1 n) t:=rfl
def Zbl.l2.step (again:(List Int×List (Int×List Int))→Option (List Int)):(List Int×List (Int×List Int))→Option (List Int):=fun (out2,list2)=>
 (bif (decide ((list2.length:Int)>1)) then ((Za4 list2).bind fun (r,r1,r2)=>
 ((Za4 r2).bind fun (r3,r4,r5)=>
 (need (fits (([]:List (Int)).length+r1.length)) (need (fits (([]++r1).length+r4.length)) ((Zbl.l1 ((((([]++r1)++r4).length:Int)-(0:Int)).toNat+1) (((([]++r1)++r4).length:Int),0,out2,r,r1,r3,r4,r5,(([]++r1)++r4))).bind fun (out4,o5,o6,o7,o8,left1,syms)=>
 (need (fits (left1.length+([((w64 (o5+o7)),syms)]:List (Int×List Int)).length)) (again (out4,(left1++[((w64 (o5+o7)),syms)]))))))))) else
 (some out2))
def Zbl.l2:=ZaC Zbl.l2.step
theorem Zbl.l2.succ (n:Nat) t:Zbl.l2 (n+1) t=Zbl.l2.step (Zbl.l2 n) t:=rfl
def Zbl.l0.step (again:(List Int×Int×Int×List Int×List (Int×List Int))→Option (List Int×List (Int×List Int))):(List Int×Int×Int×List Int×List (Int×List Int))→Option (List Int×List (Int×List Int)):=fun (t,t1,t2,out,list)=>
 (bif (decide (t2<t1)) then (need (decide (0≤t2)&&decide (t2<t.length)) (bif (decide ((t.getD t2.toNat 0)>0)) then (need (fits (list.length+([((t.getD t2.toNat 0),[t2])]:List (Int×List Int)).length)) (again (t,t1,(w64 (t2+1)),out,(list++[((t.getD t2.toNat 0),[t2])])))) else
 (again (t,t1,(w64 (t2+1)),out,list)))) else
 (some (out,list)))
def Zbl.l0:=ZaC Zbl.l0.step
theorem Zbl.l0.succ (n:Nat) t:Zbl.l0 (n+1) t=Zbl.l0.step (Zbl.l0 n) t:=rfl
def Zbl (counts:List Int):Option (List Int):=
 (need (decide (0≤(counts.length:Int))&&fits (counts.length:Int).toNat) ((Zbl.l0 (((counts.length:Int)-(0:Int)).toNat+1) (counts,(counts.length:Int),0,(List.replicate (counts.length:Int).toNat (0:Int)),[])).bind fun (out1,list1)=>
 (bif ((list1.length:Int)==1) then (need (decide (0≤(0:Int))&&decide ((0:Int)<list1.length)) (need (decide (0≤(0:Int))&&decide ((0:Int)<((list1.getD 0 (0,[])).2).length)) (need (decide (0≤(((list1.getD 0 (0,[])).2).getD 0 0))&&decide ((((list1.getD 0 (0,[])).2).getD 0 0)<out1.length)) (some (out1.set ((((list1.getD 0 (0,[])).2).getD 0 0).toNat) 1))))) else
 ((Zbl.l2 (((list1.length:Int)-1).toNat+1) (out1,list1)).bind fun out5=>
 (some out5)))))
def Za0.l2.step (again:(Int×Int×Int×List Int)→Option (Int×List Int)):(Int×Int×Int×List Int)→Option (Int×List Int):=fun (most6,t5,t6,now5)=>
 (bif (decide (t6<t5)) then (need (decide (0≤t6)&&decide (t6<now5.length)) (need (decide (0≤t6)&&decide (t6<now5.length)) (again (most6,t5,(w64 (t6+1)),(now5.set t6.toNat (w64 ((w64 ((now5.getD t6.toNat 0)+1)).tdiv 2))))))) else
 (some (most6,now5)))
def Za0.l2:=ZaC Za0.l2.step
theorem Za0.l2.succ (n:Nat) t:Za0.l2 (n+1) t=Za0.l2.step (Za0.l2 n) t:=rfl
def Za0.l1.step (again:(Int×Int×Int×Int×List Int×List Int)→Option (Int×Int×List Int×List Int)):(Int×Int×Int×Int×List Int×List Int)→Option (Int×Int×List Int×List Int):=fun (most4,long,t3,t4,now3,o)=>
 (bif (decide (t4<t3)) then (need (decide (0≤t4)&&decide (t4<o.length)) (again (most4,(ZvC long (o.getD t4.toNat 0)),t3,(w64 (t4+1)),now3,o))) else
 (some (most4,long,now3,o)))
def Za0.l1:=ZaC Za0.l1.step
theorem Za0.l1.succ (n:Nat) t:Za0.l1 (n+1) t=Za0.l1.step (Za0.l1 n) t:=rfl
def Za0.l3.step (again:(Int×List Int)→Option ((Unit)⊕(List Int))):(Int×List Int)→Option ((Unit)⊕(List Int)):=fun (most3,now2)=>
 ((Zbl now2).bind fun depths_=>
 ((Za0.l1 (((depths_.length:Int)-(0:Int)).toNat+1) (most3,0,(depths_.length:Int),0,now2,depths_)).bind fun (most5,long1,now4,out)=>
 (bif (decide (long1≤most5)) then ((some out).map Sum.inr) else
 ((Za0.l2 (((now4.length:Int)-(0:Int)).toNat+1) (most5,(now4.length:Int),0,now4)).bind fun (most7,now6)=>
 (again (most7,now6))))))
def Za0.l3:=ZaC Za0.l3.step
theorem Za0.l3.succ (n:Nat) t:Za0.l3 (n+1) t=Za0.l3.step (Za0.l3 n) t:=rfl
def Za0.l0.step (again:(Int×Int×List Int×Int×Int×List Int)→Option ((Int×Int×List Int)⊕(List Int))):(Int×Int×List Int×Int×Int×List Int)→Option ((Int×Int×List Int)⊕(List Int)):=fun (most1,many,t,t1,t2,now)=>
 (bif (decide (t2<t1)) then (need (decide (0≤t2)&&decide (t2<t.length)) ((ZbA (t.getD t2.toNat 0) 0 100000).bind fun within_1=>
 (bif (!within_1) then ((some []).map Sum.inr) else
 (bif (decide ((t.getD t2.toNat 0)>0)) then (need (fits (now.length+([(t.getD t2.toNat 0)]:List (Int)).length)) (again (most1,(w64 (many+1)),t,t1,(w64 (t2+1)),(now++[(t.getD t2.toNat 0)])))) else
 (need (fits (now.length+([(t.getD t2.toNat 0)]:List (Int)).length)) (again (most1,many,t,t1,(w64 (t2+1)),(now++[(t.getD t2.toNat 0)])))))))) else
 (some (.inl (most1,many,now))))
def Za0.l0:=ZaC Za0.l0.step
theorem Za0.l0.succ (n:Nat) t:Za0.l0 (n+1) t=Za0.l0.step (Za0.l0 n) t:=rfl
def Za0 (counts:List Int) (most:Int):Option (List Int):=
 ((bif (decide ((counts.length:Int)>300)) then (some true) else
 ((ZbA most 1 15).bind fun within_=>
 (some (!within_)))).bind fun c=>
 (bif c then (some []) else
 ((Za0.l0 (((counts.length:Int)-(0:Int)).toNat+1) (most,0,counts,(counts.length:Int),0,[])).bind fun r=>match r with
 | .inl (most2,many1,now1)=>(need (decide (0≤(w64 (most2-1)))) ((ZbA many1 1 (Zsu .i64 1 (w64 (most2-1)))).bind fun within_2=>
 (bif (!within_2) then (some []) else
 ((Za0.l3 (100000) (most2,now1)).bind fun r=>match r with
 | .inl _=>none
 | .inr r=>some r))))
 | .inr r=>some r)))
def Zcq.l0.step (again:(List Int×Int×Int×(List ((Int×Int)×Int))×List Int)→Option (List ((Int×Int)×Int))):(List Int×Int×Int×(List ((Int×Int)×Int))×List Int)→Option (List ((Int×Int)×Int)):=fun (lens1,t,t1,o,o1)=>
 (bif (decide (t1<t)) then (need (decide (0≤t1)&&decide (t1<o1.length)) (need (decide (0≤t1)&&decide (t1<lens1.length)) (bif (decide ((lens1.getD t1.toNat 0)>0)) then (need (decide (0≤t1)&&decide (t1<lens1.length)) (again (lens1,t,(w64 (t1+1)),(Zfx [.int .i64,.int .i64] [.int .i64] o ((o1.getD t1.toNat 0),(lens1.getD t1.toNat 0)) t1),o1))) else
 (again (lens1,t,(w64 (t1+1)),o,o1))))) else
 (some o))
def Zcq.l0:=ZaC Zcq.l0.step
theorem Zcq.l0.succ (n:Nat) t:Zcq.l0 (n+1) t=Zcq.l0.step (Zcq.l0 n) t:=rfl
def Zcq (lens:List Int):Option (List ((Int×Int)×Int)):=
 ((ZcM lens).bind fun codes_=>
 ((Zcq.l0 (((codes_.length:Int)-(0:Int)).toNat+1) (lens,(codes_.length:Int),0,[],codes_)).bind fun o2=>
 (some o2)))
def Zbn.l0.step (again:(Int×Int×Str×Int×Bool×List ((Int×Int)×Int))→Option ((Str×Int×Bool×List ((Int×Int)×Int))⊕(Int×Str×Int×Bool×List ((Int×Int)×Int)))):(Int×Int×Str×Int×Bool×List ((Int×Int)×Int))→Option ((Str×Int×Bool×List ((Int×Int)×Int))⊕(Int×Str×Int×Bool×List ((Int×Int)×Int))):=fun (code_,l,o,o1,o2,o3)=>
 (bif (decide (l≤15)) then ((Zi0 o o1 o2).bind fun (r,r1,r2,r3)=>
 ((bif (ZeG [.int .i64,.int .i64] [.int .i64] o3 ((w64 ((w64 (2*code_))+r)),l)).isSome then (some (!r3)) else
 (some false)).bind fun c=>
 (bif c then ((some (((ZeG [.int .i64,.int .i64] [.int .i64] o3 ((w64 ((w64 (2*code_))+r)),l)).getD 0),r1,r2,r3,o3)).map Sum.inr) else
 (again ((w64 ((w64 (2*code_))+r)),(w64 (l+1)),r1,r2,r3,o3))))) else
 (some (.inl (o,o1,o2,o3))))
def Zbn.l0:=ZaC Zbn.l0.step
theorem Zbn.l0.succ (n:Nat) t:Zbn.l0 (n+1) t=Zbn.l0.step (Zbn.l0 n) t:=rfl
def Zbn (s:Str) (at_:Int) (bad:Bool) (book:List ((Int×Int)×Int)):Option (Int×Str×Int×Bool×List ((Int×Int)×Int)):=
 ((Zbn.l0 ((15-(1:Int)).toNat+2) (0,1,s,at_,bad,book)).bind fun r=>match r with
 | .inl (o4,o5,o6,o7)=>(some (0,o4,o5,true,o7))
 | .inr r=>some r)
def add.l0.step (again:(Int×Int×List Int×Int×Int×Int)→Option (List Int)):(Int×Int×List Int×Int×Int×Int)→Option (List Int):=fun (t,t1,out1,o,o1,o2)=>
 (bif (decide (t1<t)) then (need (decide (0≤(w64 ((out1.length:Int)-o2)))&&decide ((w64 ((out1.length:Int)-o2))<out1.length)) (need (fits (out1.length+([(out1.getD ((w64 ((out1.length:Int)-o2)).toNat) 0)]:List (Int)).length)) (again (t,(w64 (t1+1)),(out1++[(out1.getD ((w64 ((out1.length:Int)-o2)).toNat) 0)]),o,o1,o2)))) else
 (some out1))
def add.l0:=ZaC add.l0.step
theorem add.l0.succ (n:Nat) t:add.l0 (n+1) t=add.l0.step (add.l0 n) t:=rfl
def add (byte:Int) (long:Int) (back:Int) (out:List Int):Option (Bool×List Int):=
 (bif (long==0) then ((bif (back != 0) then (some true) else
 ((ZbA byte 0 255).bind fun within_=>
 (some (!within_)))).bind fun c=>
 (bif c then (some (false,[])) else
 (need (fits (out.length+([(IntKind.wrap .u8 byte)]:List (Int)).length)) (some (true,(out++[(IntKind.wrap .u8 byte)])))))) else
 ((bif (byte != 0) then (some true) else
 ((ZbA long 3 60).bind fun within_1=>
 (bif (!within_1) then (some true) else
 ((ZbA back 1 (Zqo 250 (out.length:Int))).bind fun within_2=>
 (some (!within_2)))))).bind fun c1=>
 (bif c1 then (some (false,[])) else
 ((add.l0 ((long-(0:Int)).toNat+1) (long,0,out,byte,long,back)).bind fun out2=>
 (some (true,out2))))))
def Zar.l0.step (again:(Str×Int×Int×Int×(List (Int×Int×Int))×Int×Int×Int)→Option (Str×Int×Int×Int×(List (Int×Int×Int))×Int×Int×Int)):(Str×Int×Int×Int×(List (Int×Int×Int))×Int×Int×Int)→Option (Str×Int×Int×Int×(List (Int×Int×Int))×Int×Int×Int):=fun (text3,at_2,back1,n,out2,o3,o4,o5)=>
 ((bif (decide (n<60)) then (bif (decide ((w64 (at_2+n))<(text3.length:Int))) then (need (decide (0≤(w64 (at_2+n)))&&decide ((w64 (at_2+n))<text3.length)) (need (decide (0≤(w64 ((w64 (at_2+n))-back1)))&&decide ((w64 ((w64 (at_2+n))-back1))<text3.length)) (some (((text3.getD (w64 (at_2+n)).toNat 0).toNat:Int)==((text3.getD (w64 ((w64 (at_2+n))-back1)).toNat 0).toNat:Int))))) else
 (some false)) else
 (some false)).bind fun c=>
 (bif c then (again (text3,at_2,back1,(w64 (n+1)),out2,o3,o4,o5)) else
 (some (text3,at_2,back1,n,out2,o3,o4,o5))))
def Zar.l0:=ZaC Zar.l0.step
theorem Zar.l0.succ (n:Nat) t:Zar.l0 (n+1) t=Zar.l0.step (Zar.l0 n) t:=rfl
def Zar.l1.step (again:(Str×Int×Int×(List (Int×Int×Int))×Int×Int×Int)→Option (Str×Int×(List (Int×Int×Int))×Int×Int×Int)):(Str×Int×Int×(List (Int×Int×Int))×Int×Int×Int)→Option (Str×Int×(List (Int×Int×Int))×Int×Int×Int):=fun (text2,at_1,back,out1,o,o1,o2)=>
 (bif (decide (back≤(Zqo 250 at_1))) then ((Zar.l0 ((60-(0:Int)).toNat+1) (text2,at_1,back,0,out1,o,o1,o2)).bind fun (text4,at_3,back2,n1,out3,o6,o7,o8)=>
 ((bif (decide (n1≥3)) then (some (decide (n1>o7))) else
 (some false)).bind fun c1=>
 (bif c1 then (again (text4,at_3,(w64 (back2+1)),out3,0,n1,back2)) else
 (again (text4,at_3,(w64 (back2+1)),out3,o6,o7,o8))))) else
 (some (text2,at_1,out1,o,o1,o2)))
def Zar.l1:=ZaC Zar.l1.step
theorem Zar.l1.succ (n:Nat) t:Zar.l1 (n+1) t=Zar.l1.step (Zar.l1 n) t:=rfl
def Zar.l2.step (again:(Str×Int×List (Int×Int×Int))→Option (List (Int×Int×Int))):(Str×Int×List (Int×Int×Int))→Option (List (Int×Int×Int)):=fun (text1,at_,out)=>
 (bif (decide (at_<(text1.length:Int))) then (need (decide (0≤at_)&&decide (at_<text1.length)) ((Zar.l1 (((Zqo 250 at_)-(1:Int)).toNat+2) (text1,at_,1,out,(w64 ((text1.getD at_.toNat 0).toNat:Int)),0,0)).bind fun (text5,at_4,out4,o9,o10,o11)=>
 (need (fits (out4.length+([(o9,o10,o11)]:List (Int×Int×Int)).length)) (again (text5,(w64 (at_4+(ZvC o10 1))),(out4++[(o9,o10,o11)])))))) else
 (some out))
def Zar.l2:=ZaC Zar.l2.step
theorem Zar.l2.succ (n:Nat) t:Zar.l2 (n+1) t=Zar.l2.step (Zar.l2 n) t:=rfl
def Zar (text:Str):Option (List (Int×Int×Int)):=
 (bif (decide ((text.length:Int)>300)) then (some []) else
 ((Zar.l2 (((text.length:Int)-(0:Int)).toNat+1) (text,0,[])).bind fun out5=>
 (some out5)))
def Zcy.l0.step (again:(Int×Int×Int×Int×Int×List Int×List Int×List Int×List Int)→Option (List Int×List Int×List Int×List Int)):(Int×Int×Int×Int×Int×List Int×List Int×List Int×List Int)→Option (List Int×List Int×List Int×List Int):=fun (from_1,plain1,each1,t,t1,o,o1,o2,o3)=>
 (bif (decide (t1<t)) then (((bif (decide (t1≥plain1)) then (need (each1 != 0) (some (from_1,plain1,each1,(w64 ((w64 ((w64 (t1-plain1)).tdiv each1))+1)),t,t1,o,o1,o2,o3))) else
 (some (from_1,plain1,each1,0,t,t1,o,o1,o2,o3))):Option (Int×Int×Int×Int×Int×Int×List Int×List Int×List Int×List Int)).bind fun (from_2,plain2,each2,bits,t2,t3,o4,o5,o6,o7)=>
 (need (fits (o6.length+([from_2]:List (Int)).length)) (need (fits (o7.length+([bits]:List (Int)).length)) (need (decide (0≤bits)) (again ((w64 (from_2+(Zsu .i64 1 bits))),plain2,each2,t2,(w64 (t3+1)),o4,o5,(o6++[from_2]),(o7++[bits]))))))) else
 (some (o,o1,o2,o3)))
def Zcy.l0:=ZaC Zcy.l0.step
def Zcy (from_:Int) (many:Int) (plain:Int) (each:Int):Option (List Int×List Int):=
 ((Zcy.l0 ((many-(0:Int)).toNat+1) (from_,plain,each,many,0,[],[],[],[])).bind fun (o8,o9,o10,o11)=>
 (some (o10,o11)))
def Zb7:Option (List Int×List Int):=
 ((Zcy 3 28 8 4).bind fun (r,r1)=>
 (some (r,r1)))
def Zcg:Option (List Int×List Int):=
 ((Zcy 1 30 4 2).bind fun (r,r1)=>
 (some (r,r1)))
def Zcu.l0.step (again:(Int×Int×List Int×List Int)→Option (Int)):(Int×Int×List Int×List Int)→Option (Int):=fun (n1,k,o,o1)=>
 (need (decide (0≤k)&&decide (k<o.length)) (bif (decide ((o.getD k.toNat 0)>n1)) then (again (n1,(w64 (k-1)),o,o1)) else
 (some k)))
def Zcu.l0:=ZaC Zcu.l0.step
def Zcu (first:List Int) (bits:List Int) (n:Int):Option (Int):=
 ((Zcu.l0 ((w64 ((first.length:Int)-1)).toNat+1) (n,(w64 ((first.length:Int)-1)),first,bits)).bind fun k1=>
 (some k1))
def Zbp.l1.step (again:(Int×Int×List Int×List Int)→Option (List Int×List Int)):(Int×Int×List Int×List Int)→Option (List Int×List Int):=fun (t2,t3,lit2,dist)=>
 (bif (decide (t3<t2)) then (need (decide (0≤t3)&&decide (t3<dist.length)) (again (t2,(w64 (t3+1)),lit2,(dist.set t3.toNat 5)))) else
 (some (lit2,dist)))
def Zbp.l1:=ZaC Zbp.l1.step
def Zbp.l0.step (again:(Int×Int×List Int)→Option (List Int)):(Int×Int×List Int)→Option (List Int):=fun (t,t1,lit)=>
 (bif (decide (t1<t)) then ((bif (decide (t1<144)) then (some true) else
 (some (decide (t1≥280)))).bind fun c=>
 (bif c then (need (decide (0≤t1)&&decide (t1<lit.length)) (again (t,(w64 (t1+1)),(lit.set t1.toNat 8)))) else
 (bif (decide (t1<256)) then (need (decide (0≤t1)&&decide (t1<lit.length)) (again (t,(w64 (t1+1)),(lit.set t1.toNat 9)))) else
 (need (decide (0≤t1)&&decide (t1<lit.length)) (again (t,(w64 (t1+1)),(lit.set t1.toNat 7))))))) else
 (some lit))
def Zbp.l0:=ZaC Zbp.l0.step
def Zbp:Option (List Int×List Int):=
 (need (decide (0≤288)&&fits 288) ((Zbp.l0 ((((List.replicate 288 (0:Int)).length:Int)-(0:Int)).toNat+1) (((List.replicate 288 (0:Int)).length:Int),0,(List.replicate 288 (0:Int)))).bind fun lit1=>
 (need (decide (0≤32)&&fits 32) ((Zbp.l1 ((((List.replicate 32 (0:Int)).length:Int)-(0:Int)).toNat+1) (((List.replicate 32 (0:Int)).length:Int),0,lit1,(List.replicate 32 (0:Int)))).bind fun (lit3,dist1)=>
 (some (lit3,dist1))))))
def ZdN (text:Str):Option (Str):=
 (bif (decide ((text.length:Int)>300)) then (some []) else
 ((Zff 1 3 0 []).bind fun (r,r1)=>
 ((Zkc r r1).bind fun (r2,r3)=>
 ((Zff (text.length:Int) 16 r2 r3).bind fun (r4,r5)=>
 ((Zff (w64 (65535-(text.length:Int))) 16 r4 r5).bind fun (r6,r7)=>
 (need (fits ((ZbF r7).length+text.length)) (some ((ZbF r7)++text))))))))
def ZgB (lens:List Int) (all:List Int) (s:Int) (many:Int) (b:List Int):Option (Int×List Int):=
 (need (decide (0≤s)&&decide (s<all.length)) (need (decide (0≤s)&&decide (s<lens.length)) ((ZbE (all.getD s.toNat 0) (lens.getD s.toNat 0)).bind fun BitsTurn=>
 (need (decide (0≤s)&&decide (s<lens.length)) ((Zff BitsTurn (lens.getD s.toNat 0) many b).bind fun (r,r1)=>
 (some (r,r1)))))))
def ZbR.l0.step (again:(List Int×List Int×(List (Int×Int×Int))×Int×Int×Int×List Int×List Int×List Int)→Option (List Int×Int×List Int×List Int)):(List Int×List Int×(List (Int×Int×Int))×Int×Int×Int×List Int×List Int×List Int)→Option (List Int×Int×List Int×List Int):=fun (lit1,dist1,t,t1,t2,o,a,b1,o1)=>
 (bif (decide (t2<t1)) then (need (decide (0≤t2)&&decide (t2<t.length)) (bif ((t.getD t2.toNat (0,0,0)).2.1==0) then ((ZgB lit1 a ((t.getD t2.toNat (0,0,0)).1) o o1).bind fun (r,r1)=>
 (again (lit1,dist1,t,t1,(w64 (t2+1)),r,a,b1,r1))) else
 ((Zb7).bind fun (r2,r3)=>
 ((Zcu r2 r3 ((t.getD t2.toNat (0,0,0)).2.1)).bind fun find_=>
 ((ZgB lit1 a (w64 (257+find_)) o o1).bind fun (r4,r5)=>
 ((Zb7).bind fun (r6,r7)=>
 (need (decide (0≤find_)&&decide (find_<r6.length)) ((Zb7).bind fun (r8,r9)=>
 (need (decide (0≤find_)&&decide (find_<r9.length)) ((Zff (w64 ((t.getD t2.toNat (0,0,0)).2.1-(r6.getD find_.toNat 0))) (r9.getD find_.toNat 0) r4 r5).bind fun (r10,r11)=>
 ((Zcg).bind fun (r12,r13)=>
 ((Zcu r12 r13 ((t.getD t2.toNat (0,0,0)).2.2)).bind fun find_1=>
 ((ZgB dist1 b1 find_1 r10 r11).bind fun (r14,r15)=>
 ((Zcg).bind fun (r16,r17)=>
 (need (decide (0≤find_1)&&decide (find_1<r16.length)) ((Zcg).bind fun (r18,r19)=>
 (need (decide (0≤find_1)&&decide (find_1<r19.length)) ((Zff (w64 ((t.getD t2.toNat (0,0,0)).2.2-(r16.getD find_1.toNat 0))) (r19.getD find_1.toNat 0) r14 r15).bind fun (r20,r21)=>
 (again (lit1,dist1,t,t1,(w64 (t2+1)),r20,a,b1,r21)))))))))))))))))))) else
 (some (lit1,o,a,o1)))
def ZbR.l0:=ZaC ZbR.l0.step
theorem ZbR.l0.succ (n:Nat) t:ZbR.l0 (n+1) t=ZbR.l0.step (ZbR.l0 n) t:=rfl
def ZbR (list:List (Int×Int×Int)) (lit:List Int) (dist:List Int) (many:Int) (b:List Int):Option (Int×List Int):=
 ((ZcM lit).bind fun codes_=>
 ((ZcM dist).bind fun codes_1=>
 ((ZbR.l0 (((list.length:Int)-(0:Int)).toNat+1) (lit,dist,list,(list.length:Int),0,many,codes_,codes_1,b)).bind fun (lit2,o2,a1,o3)=>
 ((ZgB lit2 a1 256 o2 o3).bind fun (r22,r23)=>
 (some (r22,r23))))))
def ZdT (text:Str):Option (Str):=
 (bif (decide ((text.length:Int)>300)) then (some []) else
 ((Zff 1 1 0 []).bind fun (r,r1)=>
 ((Zff 1 2 r r1).bind fun (r2,r3)=>
 ((Zbp).bind fun (r4,r5)=>
 ((Zar text).bind fun TokensOf=>
 ((ZbR TokensOf r4 r5 r2 r3).bind fun (r6,r7)=>
 (some (ZbF r7))))))))
def ZbK.l0.step (again:(List Int×Int×Int)→Option (List Int×Int)):(List Int×Int×Int)→Option (List Int×Int):=fun (lens1,least_1,n)=>
 ((bif (decide (n>least_1)) then (need (decide (0≤(w64 (n-1)))&&decide ((w64 (n-1))<lens1.length)) (some ((lens1.getD (w64 (n-1)).toNat 0)==0))) else
 (some false)).bind fun c=>
 (bif c then (again (lens1,least_1,(w64 (n-1)))) else
 (some (lens1,n))))
def ZbK.l0:=ZaC ZbK.l0.step
theorem ZbK.l0.succ (n:Nat) t:ZbK.l0 (n+1) t=ZbK.l0.step (ZbK.l0 n) t:=rfl
def ZbK (lens:List Int) (least_:Int):Option (List Int):=
 ((ZbK.l0 (((lens.length:Int)-least_).toNat+1) (lens,least_,(lens.length:Int))).bind fun (lens2,n1)=>
 (need (decide (0≤n1)&&decide (n1≤lens2.length)) (some (lens2.take n1.toNat))))
def Za1.l3.step (again:(List Int×List Int×Int×Int×(List (Int×Int×Int))×List Int×Int×List Int×List Int×List Int)→Option (List Int×List Int×(List (Int×Int×Int))×Int×List Int)):(List Int×List Int×Int×Int×(List (Int×Int×Int))×List Int×Int×List Int×List Int×List Int)→Option (List Int×List Int×(List (Int×Int×Int))×Int×List Int):=fun (lit4,dist4,t7,t8,list6,meta_2,o6,m,o7,o8)=>
 (bif (decide (t8<t7)) then (need (decide (0≤t8)&&decide (t8<o7.length)) ((ZgB meta_2 m (o7.getD t8.toNat 0) o6 o8).bind fun (r16,r17)=>
 (again (lit4,dist4,t7,(w64 (t8+1)),list6,meta_2,r16,m,o7,r17)))) else
 (some (lit4,dist4,list6,o6,o8)))
def Za1.l3:=ZaC Za1.l3.step
theorem Za1.l3.succ (n:Nat) t:Za1.l3 (n+1) t=Za1.l3.step (Za1.l3 n) t:=rfl
def Za1.l2.step (again:(List Int×List Int×List Int×Int×Int×(List (Int×Int×Int))×List Int×List Int×Int×List Int)→Option (List Int×List Int×(List (Int×Int×Int))×List Int×List Int×Int×List Int)):(List Int×List Int×List Int×Int×Int×(List (Int×Int×Int))×List Int×List Int×Int×List Int)→Option (List Int×List Int×(List (Int×Int×Int))×List Int×List Int×Int×List Int):=fun (lit2,dist2,t4,t5,t6,list4,all1,meta_,o2,o3)=>
 (bif (decide (t6<t5)) then (need (decide (0≤t6)&&decide (t6<t4.length)) (need (decide (0≤(t4.getD t6.toNat 0))&&decide ((t4.getD t6.toNat 0)<meta_.length)) ((Zff (meta_.getD ((t4.getD t6.toNat 0).toNat) 0) 3 o2 o3).bind fun (r14,r15)=>
 (again (lit2,dist2,t4,t5,(w64 (t6+1)),list4,all1,meta_,r14,r15))))) else
 (some (lit2,dist2,list4,all1,meta_,o2,o3)))
def Za1.l2:=ZaC Za1.l2.step
theorem Za1.l2.succ (n:Nat) t:Za1.l2 (n+1) t=Za1.l2.step (Za1.l2 n) t:=rfl
def Za1.l1.step (again:(List Int×List Int×Int×Int×(List (Int×Int×Int))×List Int×List Int)→Option (List Int×List Int×(List (Int×Int×Int))×List Int×List Int)):(List Int×List Int×Int×Int×(List (Int×Int×Int))×List Int×List Int)→Option (List Int×List Int×(List (Int×Int×Int))×List Int×List Int):=fun (lit,dist,t2,t3,list2,o1,c)=>
 (bif (decide (t3<t2)) then (need (decide (0≤t3)&&decide (t3<o1.length)) (need (decide (0≤(o1.getD t3.toNat 0))&&decide ((o1.getD t3.toNat 0)<c.length)) (need (decide (0≤(o1.getD t3.toNat 0))&&decide ((o1.getD t3.toNat 0)<c.length)) (again (lit,dist,t2,(w64 (t3+1)),list2,o1,(c.set ((o1.getD t3.toNat 0).toNat) (w64 ((c.getD ((o1.getD t3.toNat 0).toNat) 0)+1)))))))) else
 (some (lit,dist,list2,o1,c)))
def Za1.l1:=ZaC Za1.l1.step
theorem Za1.l1.succ (n:Nat) t:Za1.l1 (n+1) t=Za1.l1.step (Za1.l1 n) t:=rfl
def Za1.l0.step (again:(Bool×Int×Int×(List (Int×Int×Int))×List Int×List Int)→Option (Bool×(List (Int×Int×Int))×List Int×List Int)):(Bool×Int×Int×(List (Int×Int×Int))×List Int×List Int)→Option (Bool×(List (Int×Int×Int))×List Int×List Int):=fun (none_,t,t1,o,a,b)=>
 (bif (decide (t1<t)) then (need (decide (0≤t1)&&decide (t1<o.length)) (bif ((o.getD t1.toNat (0,0,0)).2.1==0) then (need (decide (0≤(o.getD t1.toNat (0,0,0)).1)&&decide ((o.getD t1.toNat (0,0,0)).1<a.length)) (need (decide (0≤(o.getD t1.toNat (0,0,0)).1)&&decide ((o.getD t1.toNat (0,0,0)).1<a.length)) (again (none_,t,(w64 (t1+1)),o,(a.set (((o.getD t1.toNat (0,0,0)).1).toNat) (w64 ((a.getD (((o.getD t1.toNat (0,0,0)).1).toNat) 0)+1))),b)))) else
 ((Zb7).bind fun (r,r1)=>
 ((Zcu r r1 ((o.getD t1.toNat (0,0,0)).2.1)).bind fun find_=>
 (need (decide (0≤(w64 (257+find_)))&&decide ((w64 (257+find_))<a.length)) (need (decide (0≤(w64 (257+find_)))&&decide ((w64 (257+find_))<a.length)) ((Zcg).bind fun (r2,r3)=>
 ((Zcu r2 r3 ((o.getD t1.toNat (0,0,0)).2.2)).bind fun find_1=>
 (need (decide (0≤find_1)&&decide (find_1<b.length)) (need (decide (0≤find_1)&&decide (find_1<b.length)) (again (false,t,(w64 (t1+1)),o,(a.set ((w64 (257+find_)).toNat) (w64 ((a.getD ((w64 (257+find_)).toNat) 0)+1))),(b.set find_1.toNat (w64 ((b.getD find_1.toNat 0)+1))))))))))))))) else
 (some (none_,o,a,b)))
def Za1.l0:=ZaC Za1.l0.step
theorem Za1.l0.succ (n:Nat) t:Za1.l0 (n+1) t=Za1.l0.step (Za1.l0 n) t:=rfl
def Za1 (text:Str):Option (Str):=
 (bif (decide ((text.length:Int)>300)) then (some []) else
 ((Zar text).bind fun TokensOf=>
 (need (decide (0≤286)&&fits 286) (need (decide (0≤30)&&fits 30) (need (decide (0≤(256:Int))&&decide ((256:Int)<(List.replicate 286 (0:Int)).length)) ((Za1.l0 (((TokensOf.length:Int)-(0:Int)).toNat+1) (true,(TokensOf.length:Int),0,TokensOf,((List.replicate 286 (0:Int)).set 256 1),(List.replicate 30 (0:Int)))).bind fun (none_1,list,a1,b1)=>
 (((bif none_1 then (need (decide (0≤(0:Int))&&decide ((0:Int)<b1.length)) (some (list,a1,(b1.set 0 1)))) else
 (some (list,a1,b1))):Option ((List (Int×Int×Int))×List Int×List Int)).bind fun (list1,a2,b2)=>
 ((Za0 a2 15).bind fun LensOf=>
 ((ZbK LensOf 257).bind fun trimmed_=>
 ((Za0 b2 15).bind fun LensOf1=>
 ((ZbK LensOf1 1).bind fun trimmed_1=>
 (need (fits (([]:List (Int)).length+trimmed_.length)) (need (fits (([]++trimmed_).length+trimmed_1.length)) (need (decide (0≤(([16,17,18,0,8,7,9,6,10,5,11,4,12,3,13,2,14,1,15]:List (Int)).length:Int))&&fits (([16,17,18,0,8,7,9,6,10,5,11,4,12,3,13,2,14,1,15]:List (Int)).length:Int).toNat) ((Za1.l1 ((((([]++trimmed_)++trimmed_1).length:Int)-(0:Int)).toNat+1) (trimmed_,trimmed_1,((([]++trimmed_)++trimmed_1).length:Int),0,list1,(([]++trimmed_)++trimmed_1),(List.replicate (([16,17,18,0,8,7,9,6,10,5,11,4,12,3,13,2,14,1,15]:List (Int)).length:Int).toNat (0:Int)))).bind fun (lit1,dist1,list3,all,c1)=>
 ((Za0 c1 7).bind fun LensOf2=>
 ((Zff 1 1 0 []).bind fun (r4,r5)=>
 ((Zff 2 2 r4 r5).bind fun (r6,r7)=>
 ((Zff (w64 ((lit1.length:Int)-257)) 5 r6 r7).bind fun (r8,r9)=>
 ((Zff (w64 ((dist1.length:Int)-1)) 5 r8 r9).bind fun (r10,r11)=>
 ((Zff (w64 ((([16,17,18,0,8,7,9,6,10,5,11,4,12,3,13,2,14,1,15]:List (Int)).length:Int)-4)) 4 r10 r11).bind fun (r12,r13)=>
 ((Za1.l2 (((([16,17,18,0,8,7,9,6,10,5,11,4,12,3,13,2,14,1,15]:List (Int)).length:Int)-(0:Int)).toNat+1) (lit1,dist1,[16,17,18,0,8,7,9,6,10,5,11,4,12,3,13,2,14,1,15],(([16,17,18,0,8,7,9,6,10,5,11,4,12,3,13,2,14,1,15]:List (Int)).length:Int),0,list3,all,LensOf2,r12,r13)).bind fun (lit3,dist3,list5,all2,meta_1,o4,o5)=>
 ((ZcM meta_1).bind fun codes_=>
 ((Za1.l3 (((all2.length:Int)-(0:Int)).toNat+1) (lit3,dist3,(all2.length:Int),0,list5,meta_1,o4,codes_,all2,o5)).bind fun (lit5,dist5,list7,o9,o10)=>
 ((ZbR list7 lit5 dist5 o9 o10).bind fun (r18,r19)=>
 (some (ZbF r19)))))))))))))))))))))))))))
def Za9.l0.step (again:(Str×Int×Int×List Str)→Option (Str)):(Str×Int×Int×List Str)→Option (Str):=fun (best,t,t1,o)=>
 (bif (decide (t1<t)) then (need (decide (0≤t1)&&decide (t1<o.length)) (bif (decide (((o.getD t1.toNat []).length:Int)<(best.length:Int))) then (again ((o.getD t1.toNat []),t,(w64 (t1+1)),o)) else
 (again (best,t,(w64 (t1+1)),o)))) else
 (some best))
def Za9.l0:=ZaC Za9.l0.step
theorem Za9.l0.succ (n:Nat) t:Za9.l0 (n+1) t=Za9.l0.step (Za9.l0 n) t:=rfl
def Za9 (text:Str):Option (Str):=
 ((ZdN text).bind fun StorePut=>
 ((ZdT text).bind fun FixedPut=>
 ((Za1 text).bind fun OwnPut=>
 ((Za9.l0 (((([FixedPut,OwnPut]:List (Str)).length:Int)-(0:Int)).toNat+1) (StorePut,(([FixedPut,OwnPut]:List (Str)).length:Int),0,[FixedPut,OwnPut])).bind fun best1=>
 (some best1)))))
def ZbZ.l0.step (again:(Int×Int×Str×Int×Bool×List Int)→Option (Str×Int×Bool×List Int)):(Int×Int×Str×Int×Bool×List Int)→Option (Str×Int×Bool×List Int):=fun (n1,k,o3,o4,o5,out2)=>
 ((bif (decide (k<n1)) then (bif (!o5) then (some (decide ((out2.length:Int)≤300))) else
 (some false)) else
 (some false)).bind fun c=>
 (bif c then ((Zfi 8 o3 o4 o5).bind fun (r11,r12,r13,r14)=>
 (need (fits (out2.length+([(IntKind.wrap .u8 r11)]:List (Int)).length)) (again (n1,(w64 (k+1)),r12,r13,r14,(out2++[(IntKind.wrap .u8 r11)]))))) else
 (some (o3,o4,o5,out2))))
def ZbZ.l0:=ZaC ZbZ.l0.step
theorem ZbZ.l0.succ (n:Nat) t:ZbZ.l0 (n+1) t=ZbZ.l0.step (ZbZ.l0 n) t:=rfl
def ZbZ (s:Str) (at_:Int) (bad:Bool) (out:List Int):Option (Str×Int×Bool×List Int):=
 ((Zez s at_ bad).bind fun (r,r1,r2)=>
 ((Zfi 16 r r1 r2).bind fun (r3,r4,r5,r6)=>
 ((Zfi 16 r4 r5 r6).bind fun (r7,r8,r9,r10)=>
 (((bif (r3 != (w64 (65535-r7))) then (some (r3,r8,r9,true,out)) else
 (some (r3,r8,r9,r10,out))):Option (Int×Str×Int×Bool×List Int)).bind fun (n,o,o1,o2,out1)=>
 ((ZbZ.l0 ((n-(0:Int)).toNat+1) (n,0,o,o1,o2,out1)).bind fun (o6,o7,o8,out3)=>
 (some (o6,o7,o8,out3)))))))
def Zas.l1.step (again:(Int×Int×Int×Int×Int×Str×Int×Bool×(List ((Int×Int)×Int))×List Int)→Option (Int×Int×Str×Int×Bool×(List ((Int×Int)×Int))×List Int)):(Int×Int×Int×Int×Int×Str×Int×Bool×(List ((Int×Int)×Int))×List Int)→Option (Int×Int×Str×Int×Bool×(List ((Int×Int)×Int))×List Int):=fun (lit5,dist5,again_1,t3,t4,o17,o18,o19,o20,all2)=>
 (bif (decide (t4<t3)) then (need (fits (all2.length+([again_1]:List (Int)).length)) (again (lit5,dist5,again_1,t3,(w64 (t4+1)),o17,o18,o19,o20,(all2++[again_1])))) else
 (some (lit5,dist5,o17,o18,o19,o20,all2)))
def Zas.l1:=ZaC Zas.l1.step
theorem Zas.l1.succ (n:Nat) t:Zas.l1 (n+1) t=Zas.l1.step (Zas.l1 n) t:=rfl
def Zas.l2.step (again:(Int×Int×Str×Int×Bool×(List ((Int×Int)×Int))×List Int)→Option (Int×Int×Str×Int×Bool×List Int)):(Int×Int×Str×Int×Bool×(List ((Int×Int)×Int))×List Int)→Option (Int×Int×Str×Int×Bool×List Int):=fun (lit3,dist3,o9,o10,o11,o12,all)=>
 ((bif (decide ((all.length:Int)<(w64 (lit3+dist3)))) then (some (!o11)) else
 (some false)).bind fun c2=>
 (bif c2 then ((Zbn o9 o10 o11 o12).bind fun (r16,r17,r18,r19,r20)=>
 (((bif (decide (r16<16)) then (some (lit3,dist3,r16,1,r17,r18,r19,r20,all)) else
 (bif (r16==16) then ((Zfi 2 r17 r18 r19).bind fun (r21,r22,r23,r24)=>
 (bif ((all.length:Int)==0) then (some (lit3,dist3,0,(w64 (3+r21)),r22,r23,true,r20,all)) else
 (need (decide (0≤(w64 ((all.length:Int)-1)))&&decide ((w64 ((all.length:Int)-1))<all.length)) (some (lit3,dist3,(all.getD ((w64 ((all.length:Int)-1)).toNat) 0),(w64 (3+r21)),r22,r23,r24,r20,all))))) else
 (bif (r16==17) then ((Zfi 3 r17 r18 r19).bind fun (r25,r26,r27,r28)=>
 (some (lit3,dist3,0,(w64 (3+r25)),r26,r27,r28,r20,all))) else
 ((Zfi 7 r17 r18 r19).bind fun (r29,r30,r31,r32)=>
 (some (lit3,dist3,0,(w64 (11+r29)),r30,r31,r32,r20,all)))))):Option (Int×Int×Int×Int×Str×Int×Bool×(List ((Int×Int)×Int))×List Int)).bind fun (lit4,dist4,again_,times,o13,o14,o15,o16,all1)=>
 ((Zas.l1 ((times-(0:Int)).toNat+1) (lit4,dist4,again_,times,0,o13,o14,o15,o16,all1)).bind fun (lit6,dist6,o21,o22,o23,o24,all3)=>
 (again (lit6,dist6,o21,o22,o23,o24,all3))))) else
 (some (lit3,dist3,o9,o10,o11,all))))
def Zas.l2:=ZaC Zas.l2.step
theorem Zas.l2.succ (n:Nat) t:Zas.l2 (n+1) t=Zas.l2.step (Zas.l2 n) t:=rfl
def Zas.l0.step (again:(Int×Int×List Int×Int×Int×Str×Int×Bool×List Int)→Option (Int×Int×Str×Int×Bool×List Int)):(Int×Int×List Int×Int×Int×Str×Int×Bool×List Int)→Option (Int×Int×Str×Int×Bool×List Int):=fun (lit1,dist1,t,t1,t2,o3,o4,o5,meta_)=>
 (bif (decide (t2<t1)) then (need (decide (0≤t2)&&decide (t2<t.length)) ((Zfi 3 o3 o4 o5).bind fun (r12,r13,r14,r15)=>
 (need (decide (0≤(t.getD t2.toNat 0))&&decide ((t.getD t2.toNat 0)<meta_.length)) (again (lit1,dist1,t,t1,(w64 (t2+1)),r13,r14,r15,(meta_.set ((t.getD t2.toNat 0).toNat) r12)))))) else
 (some (lit1,dist1,o3,o4,o5,meta_)))
def Zas.l0:=ZaC Zas.l0.step
theorem Zas.l0.succ (n:Nat) t:Zas.l0 (n+1) t=Zas.l0.step (Zas.l0 n) t:=rfl
def Zas (s:Str) (at_:Int) (bad:Bool):Option (List Int×List Int×Str×Int×Bool):=
 ((Zfi 5 s at_ bad).bind fun (r,r1,r2,r3)=>
 ((Zfi 5 r1 r2 r3).bind fun (r4,r5,r6,r7)=>
 ((Zfi 4 r5 r6 r7).bind fun (r8,r9,r10,r11)=>
 ((((bif (decide ((w64 (r+257))>286)) then (some true) else
 (some (decide ((w64 (r4+1))>30)))).bind fun c=>
 (bif c then (some ((w64 (r+257)),(w64 (r4+1)),(w64 (r8+4)),r9,r10,true)) else
 (some ((w64 (r+257)),(w64 (r4+1)),(w64 (r8+4)),r9,r10,r11)))):Option (Int×Int×Int×Str×Int×Bool)).bind fun (lit,dist,many,o,o1,o2)=>
 (need (decide (0≤(([16,17,18,0,8,7,9,6,10,5,11,4,12,3,13,2,14,1,15]:List (Int)).length:Int))&&fits (([16,17,18,0,8,7,9,6,10,5,11,4,12,3,13,2,14,1,15]:List (Int)).length:Int).toNat) (need (decide (0≤many)&&decide (many≤([16,17,18,0,8,7,9,6,10,5,11,4,12,3,13,2,14,1,15]:List (Int)).length)) ((Zas.l0 ((((([16,17,18,0,8,7,9,6,10,5,11,4,12,3,13,2,14,1,15]:List (Int)).take many.toNat).length:Int)-(0:Int)).toNat+1) (lit,dist,(([16,17,18,0,8,7,9,6,10,5,11,4,12,3,13,2,14,1,15]:List (Int)).take many.toNat),((([16,17,18,0,8,7,9,6,10,5,11,4,12,3,13,2,14,1,15]:List (Int)).take many.toNat).length:Int),0,o,o1,o2,(List.replicate (([16,17,18,0,8,7,9,6,10,5,11,4,12,3,13,2,14,1,15]:List (Int)).length:Int).toNat (0:Int)))).bind fun (lit2,dist2,o6,o7,o8,meta_1)=>
 ((bif o8 then (some true) else
 ((Zcn meta_1).bind fun LensOk=>
 (some (!LensOk)))).bind fun c1=>
 (bif c1 then (some ([],[],o6,o7,true)) else
 ((Zcq meta_1).bind fun bookOf_=>
 ((Zas.l2 (((w64 (lit2+dist2))-(([]:List Int).length:Int)).toNat+1) (lit2,dist2,o6,o7,o8,bookOf_,[])).bind fun (lit7,dist7,o25,o26,o27,all4)=>
 ((bif ((all4.length:Int) != (w64 (lit7+dist7))) then (some true) else
 (some o27)).bind fun c3=>
 (bif c3 then (some ([],[],o25,o26,true)) else
 (need (decide (0≤lit7)&&decide (lit7≤all4.length)) (need (decide (0≤lit7)&&decide (lit7≤all4.length)) (some (((all4.drop 0).take lit7.toNat),((all4.drop lit7.toNat).take (all4.length-lit7.toNat)),o25,o26,o27)))))))))))))))))
def Zcs.l0.step (again:(Str×Int×Bool×List Int×(List ((Int×Int)×Int))×List ((Int×Int)×Int))→Option ((Str×Int×Bool×List Int)⊕(Str×Int×Bool×List Int))):(Str×Int×Bool×List Int×(List ((Int×Int)×Int))×List ((Int×Int)×Int))→Option ((Str×Int×Bool×List Int)⊕(Str×Int×Bool×List Int)):=fun (o,o1,o2,out1,o3,o4)=>
 ((bif (!o2) then (some (decide ((out1.length:Int)≤300))) else
 (some false)).bind fun c1=>
 (bif c1 then ((Zbn o o1 o2 o3).bind fun (r,r1,r2,r3,r4)=>
 ((bif r3 then (some true) else
 (some (r==256))).bind fun c2=>
 (bif c2 then ((some (r1,r2,r3,out1)).map Sum.inr) else
 (bif (decide (r<256)) then (need (fits (out1.length+([(IntKind.wrap .u8 r)]:List (Int)).length)) (again (r1,r2,r3,(out1++[(IntKind.wrap .u8 r)]),r4,o4))) else
 (bif (decide ((w64 (r-257))≥28)) then ((some (r1,r2,true,out1)).map Sum.inr) else
 ((Zb7).bind fun (r5,r6)=>
 (need (decide (0≤(w64 (r-257)))&&decide ((w64 (r-257))<r5.length)) ((Zb7).bind fun (r7,r8)=>
 (need (decide (0≤(w64 (r-257)))&&decide ((w64 (r-257))<r8.length)) ((Zfi (r8.getD (w64 (r-257)).toNat 0) r1 r2 r3).bind fun (r9,r10,r11,r12)=>
 ((Zbn r10 r11 r12 o4).bind fun (r13,r14,r15,r16,r17)=>
 (bif (decide (r13≥30)) then ((some (r14,r15,true,out1)).map Sum.inr) else
 ((Zcg).bind fun (r18,r19)=>
 (need (decide (0≤r13)&&decide (r13<r18.length)) ((Zcg).bind fun (r20,r21)=>
 (need (decide (0≤r13)&&decide (r13<r21.length)) ((Zfi (r21.getD r13.toNat 0) r14 r15 r16).bind fun (r22,r23,r24,r25)=>
 ((add 0 (w64 ((r5.getD (w64 (r-257)).toNat 0)+r9)) (w64 ((r18.getD r13.toNat 0)+r22)) out1).bind fun (r26,r27)=>
 ((bif (!r26) then (some true) else
 (some r25)).bind fun c3=>
 (bif c3 then (none.map Sum.inr) else
 (again (r23,r24,r25,r27,r4,r17)))))))))))))))))))))) else
 (some (.inl (o,o1,o2,out1)))))
def Zcs.l0:=ZaC Zcs.l0.step
theorem Zcs.l0.succ (n:Nat) t:Zcs.l0 (n+1) t=Zcs.l0.step (Zcs.l0 n) t:=rfl
def Zcs (lit:List Int) (dist:List Int) (s:Str) (at_:Int) (bad:Bool) (out:List Int):Option (Str×Int×Bool×List Int):=
 ((bif bad then (some true) else
 ((Zcn lit).bind fun LensOk=>
 (bif (!LensOk) then (some true) else
 ((Zcn dist).bind fun LensOk1=>
 (some (!LensOk1)))))).bind fun c=>
 (bif c then (some (s,at_,true,out)) else
 ((Zcq lit).bind fun bookOf_=>
 ((Zcq dist).bind fun bookOf_1=>
 ((Zcs.l0 (100000) (s,at_,bad,out,bookOf_,bookOf_1)).bind fun r=>match r with
 | .inl (o5,o6,o7,out2)=>(some (o5,o6,o7,out2))
 | .inr r=>some r)))))
def Za7.l0.step (again:(Str×Int×Bool×List Int×(List ((Int×Int)×Int))×List ((Int×Int)×Int))→Option ((Str×Int×Bool×List Int)⊕(Str×Int×Bool))):(Str×Int×Bool×List Int×(List ((Int×Int)×Int))×List ((Int×Int)×Int))→Option ((Str×Int×Bool×List Int)⊕(Str×Int×Bool)):=fun (o,o1,o2,out1,o3,o4)=>
 ((bif (!o2) then (some (decide ((out1.length:Int)≤300))) else
 (some false)).bind fun c1=>
 (bif c1 then ((Zbn o o1 o2 o3).bind fun (r,r1,r2,r3,r4)=>
 ((bif r3 then (some true) else
 (some (r==256))).bind fun c2=>
 (bif c2 then ((some (r1,r2,r3)).map Sum.inr) else
 (bif (decide (r<256)) then (need (fits (out1.length+([(IntKind.wrap .u8 r)]:List (Int)).length)) (again (r1,r2,r3,(out1++[(IntKind.wrap .u8 r)]),r4,o4))) else
 (bif (decide ((w64 (r-257))≥28)) then ((some (r1,r2,true)).map Sum.inr) else
 ((Zb7).bind fun (r5,r6)=>
 (need (decide (0≤(w64 (r-257)))&&decide ((w64 (r-257))<r5.length)) ((Zb7).bind fun (r7,r8)=>
 (need (decide (0≤(w64 (r-257)))&&decide ((w64 (r-257))<r8.length)) ((Zfi (r8.getD (w64 (r-257)).toNat 0) r1 r2 r3).bind fun (r9,r10,r11,r12)=>
 ((Zbn r10 r11 r12 o4).bind fun (r13,r14,r15,r16,r17)=>
 (bif (decide (r13≥30)) then ((some (r14,r15,true)).map Sum.inr) else
 ((Zcg).bind fun (r18,r19)=>
 (need (decide (0≤r13)&&decide (r13<r18.length)) ((Zcg).bind fun (r20,r21)=>
 (need (decide (0≤r13)&&decide (r13<r21.length)) ((Zfi (r21.getD r13.toNat 0) r14 r15 r16).bind fun (r22,r23,r24,r25)=>
 ((add 0 (w64 ((r5.getD (w64 (r-257)).toNat 0)+r9)) (w64 ((r18.getD r13.toNat 0)+r22)) out1).bind fun (r26,r27)=>
 ((bif (!r26) then (some true) else
 (some r25)).bind fun c3=>
 (bif c3 then ((some (r23,r24,true)).map Sum.inr) else
 (again (r23,r24,r25,r27,r4,r17)))))))))))))))))))))) else
 (some (.inl (o,o1,o2,out1)))))
def Za7.l0:=ZaC Za7.l0.step
theorem Za7.l0.succ (n:Nat) t:Za7.l0 (n+1) t=Za7.l0.step (Za7.l0 n) t:=rfl
def Za7 (lit:List Int) (dist:List Int) (s:Str) (at_:Int) (bad:Bool) (out:List Int):Option (Str×Int×Bool):=
 ((bif bad then (some true) else
 ((Zcn lit).bind fun LensOk=>
 (bif (!LensOk) then (some true) else
 ((Zcn dist).bind fun LensOk1=>
 (some (!LensOk1)))))).bind fun c=>
 (bif c then (some (s,at_,true)) else
 ((Zcq lit).bind fun bookOf_=>
 ((Zcq dist).bind fun bookOf_1=>
 ((Za7.l0 (100000) (s,at_,bad,out,bookOf_,bookOf_1)).bind fun r=>match r with
 | .inl (o5,o6,o7,out2)=>(some (o5,o6,o7))
 | .inr r=>some r)))))
def Zbq.l0.step (again:(Bool×Str×Int×Bool×List Int)→Option ((Str×Int×Bool×List Int)⊕(Str×Int×Bool))):(Bool×Str×Int×Bool×List Int)→Option ((Str×Int×Bool×List Int)⊕(Str×Int×Bool)):=fun (last,o,o1,o2,out)=>
 (bif (!last) then ((Zi0 o o1 o2).bind fun (r,r1,r2,r3)=>
 ((Zfi 2 r1 r2 r3).bind fun (r4,r5,r6,r7)=>
 (bif (r4==0) then ((ZbZ r5 r6 r7 out).bind fun (r8,r9,r10,r11)=>
 (bif r10 then ((some ([],0,false)).map Sum.inr) else
 (bif (decide ((r11.length:Int)>300)) then ((some ([],0,false)).map Sum.inr) else
 (again ((r==1),r8,r9,r10,r11))))) else
 (bif (r4==1) then ((Zbp).bind fun (r12,r13)=>
 (Zf1 (Zcs r12 r13 r5 r6 r7 out) (fun (r14,r15,r16,r17)=>
 (bif r16 then ((some ([],0,false)).map Sum.inr) else
 (bif (decide ((r17.length:Int)>300)) then ((some ([],0,false)).map Sum.inr) else
 (again ((r==1),r14,r15,r16,r17))))) ((Za7 r12 r13 r5 r6 r7 out).bind fun (r18,r19,r20)=>
 (bif r20 then ((some ([],0,false)).map Sum.inr) else
 none)))) else
 (bif (r4==2) then ((Zas r5 r6 r7).bind fun (r21,r22,r23,r24,r25)=>
 (Zf1 (Zcs r21 r22 r23 r24 r25 out) (fun (r26,r27,r28,r29)=>
 (bif r28 then ((some ([],0,false)).map Sum.inr) else
 (bif (decide ((r29.length:Int)>300)) then ((some ([],0,false)).map Sum.inr) else
 (again ((r==1),r26,r27,r28,r29))))) ((Za7 r21 r22 r23 r24 r25 out).bind fun (r30,r31,r32)=>
 (bif r32 then ((some ([],0,false)).map Sum.inr) else
 none)))) else
 ((some ([],0,false)).map Sum.inr)))))) else
 (some (.inl (o,o1,o2,out))))
def Zbq.l0:=ZaC Zbq.l0.step
theorem Zbq.l0.succ (n:Nat) t:Zbq.l0 (n+1) t=Zbq.l0.step (Zbq.l0 n) t:=rfl
def Zbq (text:Str):Option (Str×Int×Bool):=
 (bif (decide ((text.length:Int)>700)) then (some ([],0,false)) else
 ((Zbq.l0 (100000) (false,text,0,false,[])).bind fun r=>match r with
 | .inl (o3,o4,o5,out1)=>((Zez o3 o4 o5).bind fun (r33,r34,r35)=>
 (bif r35 then (some ([],0,false)) else
 (some ((ZbF out1),(w64 (r34.tdiv 8)),true))))
 | .inr r=>some r))
def Zpb (year:Int) (month:Int):Option (Int):=
 (((bif (month==4) then (some (year,month,(month==4))) else
 (bif (month==6) then (some (year,month,(month==6))) else
 (bif (month==9) then (some (year,month,(month==9))) else
 (some (year,month,(month==11)))))):Option (Int×Int×Bool)).bind fun (year1,t,t1)=>
 (bif t1 then (some 30) else
 (bif (t==2) then ((bif ((year1.tmod 4)==0) then (bif ((year1.tmod 100) != 0) then (some true) else
 (some ((year1.tmod 400)==0))) else
 (some false)).bind fun c=>
 (bif c then (some 29) else
 (some 28))) else
 (some 31))))
def ZdJ (y:Int) (mo:Int) (d:Int) (h:Int) (mi:Int) (sec:Int):Option (Bool):=
 (((ZbA y 1980 2107).bind fun within_=>
 (bif within_ then ((ZbA mo 1 12).bind fun within_1=>
 (bif within_1 then ((Zpb y mo).bind fun days_=>
 ((ZbA d 1 days_).bind fun within_2=>
 (bif within_2 then ((ZbA h 0 23).bind fun within_3=>
 (bif within_3 then ((ZbA mi 0 59).bind fun within_4=>
 (bif within_4 then ((ZbA sec 0 58).bind fun within_5=>
 (bif within_5 then (some ((sec.tmod 2)==0)) else
 (some false))) else
 (some false))) else
 (some false))) else
 (some false)))) else
 (some false))) else
 (some false))).bind fun c=>
 (some c))
def Zcx (y:Int) (mo:Int) (d:Int) (h:Int) (mi:Int) (sec:Int):Option (Int):=
 ((ZdJ y mo d h mi sec).bind fun StampOk=>
 (bif (!StampOk) then (some (-1)) else
 (some (ior .i64 (ior .i64 (ior .i64 (ior .i64 (ior .i64 (w64 (sec.tdiv 2)) (Zsu .i64 mi 5)) (Zsu .i64 h 11)) (Zsu .i64 d 16)) (Zsu .i64 mo 21)) (Zsu .i64 (w64 (y-1980)) 25)))))
def ZdO (n:Int):Option (Int×Int×Int×Int×Int×Int×Bool):=
 (bif (decide (n<0)) then (some (0,0,0,0,0,0,false)) else
 ((Zcx (w64 (1980+(Zlp .i64 (ZnI .i64 n 25) 127))) (Zlp .i64 (ZnI .i64 n 21) 15) (Zlp .i64 (ZnI .i64 n 16) 31) (Zlp .i64 (ZnI .i64 n 11) 31) (Zlp .i64 (ZnI .i64 n 5) 63) (w64 ((Zlp .i64 n 31)*2))).bind fun StampPut=>
 (bif (StampPut != n) then (some (0,0,0,0,0,0,false)) else
 (some ((w64 (1980+(Zlp .i64 (ZnI .i64 n 25) 127))),(Zlp .i64 (ZnI .i64 n 21) 15),(Zlp .i64 (ZnI .i64 n 16) 31),(Zlp .i64 (ZnI .i64 n 11) 31),(Zlp .i64 (ZnI .i64 n 5) 63),(w64 ((Zlp .i64 n 31)*2)),true)))))
def ZbG (name:Str) (y:Int) (mo:Int) (d:Int) (h:Int) (mi:Int) (sec:Int) (text:Str):Option (Bool):=
 (((ZaO name).bind fun NameOk=>
 (bif NameOk then ((ZdJ y mo d h mi sec).bind fun StampOk=>
 (bif StampOk then (some (decide ((text.length:Int)≤300))) else
 (some false))) else
 (some false))).bind fun c=>
 (some c))
def ZbC.l0.step (again:(Int×Int×Int×List Int)→Option (List Int)):(Int×Int×Int×List Int)→Option (List Int):=fun (n1,t,t1,out)=>
 (bif (decide (t1<t)) then (need (fits (out.length+([(IntKind.wrap .u8 (n1.tmod 256))]:List (Int)).length)) (again ((w64 (n1.tdiv 256)),t,(w64 (t1+1)),(out++[(IntKind.wrap .u8 (n1.tmod 256))])))) else
 (some out))
def ZbC.l0:=ZaC ZbC.l0.step
theorem ZbC.l0.succ (n:Nat) t:ZbC.l0 (n+1) t=ZbC.l0.step (ZbC.l0 n) t:=rfl
def ZbC (n:Int) (bytes:Int):Option (Str):=
 ((ZbC.l0 ((bytes-(0:Int)).toNat+1) (n,bytes,0,[])).bind fun out1=>
 (some (ZbF out1)))
def Zbb.l0.step (again:(Str×Int×Int×Int)→Option (Int)):(Str×Int×Int×Int)→Option (Int):=fun (s1,at_1,n,k)=>
 (bif (decide (k≥0)) then (need (decide (0≤(w64 (at_1+k)))&&decide ((w64 (at_1+k))<s1.length)) (again (s1,at_1,(w64 ((w64 (256*n))+(w64 ((s1.getD (w64 (at_1+k)).toNat 0).toNat:Int)))),(w64 (k-1))))) else
 (some n))
def Zbb.l0:=ZaC Zbb.l0.step
theorem Zbb.l0.succ (n:Nat) t:Zbb.l0 (n+1) t=Zbb.l0.step (Zbb.l0 n) t:=rfl
def Zbb (s:Str) (at_:Int) (bytes:Int):Option (Int):=
 ((Zbb.l0 (((w64 (bytes-1))-0).toNat+2) (s,at_,0,(w64 (bytes-1)))).bind fun n1=>
 (some n1))
def Zej (name:Str) (y:Int) (mo:Int) (d:Int) (h:Int) (mi:Int) (sec:Int) (text:Str) (method:Int) (packed:Int):Option (Str):=
 ((ZbC 20 2).bind fun number_=>
 (need (fits (([80,75,3,4]:Str).length+number_.length)) ((ZbC 0 2).bind fun number_1=>
 (need (fits (([80,75,3,4]++number_).length+number_1.length)) ((ZbC method 2).bind fun number_2=>
 (need (fits ((([80,75,3,4]++number_)++number_1).length+number_2.length)) ((Zcx y mo d h mi sec).bind fun StampPut=>
 ((ZbC StampPut 4).bind fun number_3=>
 (need (fits (((([80,75,3,4]++number_)++number_1)++number_2).length+number_3.length)) ((crc text).bind fun Crc=>
 ((ZbC Crc 4).bind fun number_4=>
 (need (fits ((((([80,75,3,4]++number_)++number_1)++number_2)++number_3).length+number_4.length)) ((ZbC packed 4).bind fun number_5=>
 (need (fits (((((([80,75,3,4]++number_)++number_1)++number_2)++number_3)++number_4).length+number_5.length)) ((ZbC (text.length:Int) 4).bind fun number_6=>
 (need (fits ((((((([80,75,3,4]++number_)++number_1)++number_2)++number_3)++number_4)++number_5).length+number_6.length)) ((ZbC (name.length:Int) 2).bind fun number_7=>
 (need (fits (((((((([80,75,3,4]++number_)++number_1)++number_2)++number_3)++number_4)++number_5)++number_6).length+number_7.length)) ((ZbC 0 2).bind fun number_8=>
 (need (fits ((((((((([80,75,3,4]++number_)++number_1)++number_2)++number_3)++number_4)++number_5)++number_6)++number_7).length+number_8.length)) (some ((((((((([80,75,3,4]++number_)++number_1)++number_2)++number_3)++number_4)++number_5)++number_6)++number_7)++number_8))))))))))))))))))))))
def ZdQ (name:Str) (y:Int) (mo:Int) (d:Int) (h:Int) (mi:Int) (sec:Int) (text:Str):Option (Str):=
 ((ZbG name y mo d h mi sec text).bind fun EntryOk=>
 (bif (!EntryOk) then (some []) else
 ((Za9 text).bind fun FlatePut=>
 (bif (decide ((FlatePut.length:Int)<(text.length:Int))) then ((Zej name y mo d h mi sec text 8 (FlatePut.length:Int)).bind fun headOf_=>
 (need (fits (headOf_.length+name.length)) (need (fits ((headOf_++name).length+FlatePut.length)) (some ((headOf_++name)++FlatePut))))) else
 ((Zej name y mo d h mi sec text 0 (text.length:Int)).bind fun headOf_1=>
 (need (fits (headOf_1.length+name.length)) (need (fits ((headOf_1++name).length+text.length)) (some ((headOf_1++name)++text)))))))))
def ZdR (text:Str):Option (Str×Int×Int×Int×Int×Int×Int×Str×Int×Bool):=
 (bif (decide ((text.length:Int)<30)) then (some ([],0,0,0,0,0,0,[],0,false)) else
 ((Zbb text 8 2).bind fun numberAt_=>
 ((Zbb text 18 4).bind fun numberAt_1=>
 ((Zbb text 26 2).bind fun numberAt_2=>
 (need (decide (0≤(30:Int))&&decide ((30:Int)≤text.length)) ((bif (decide (((text.drop 30).length:Int)<numberAt_2)) then (some true) else
 (some (decide ((w64 (((text.drop 30).length:Int)-numberAt_2))<numberAt_1)))).bind fun c=>
 (bif c then (some ([],0,0,0,0,0,0,[],0,false)) else
 (need (decide (0≤numberAt_2)&&decide (numberAt_2≤(text.drop 30).length)) (need (decide (0≤(w64 (numberAt_2+numberAt_1)))&&decide ((w64 (numberAt_2+numberAt_1))≤(text.drop 30).length)) (need (decide (0≤numberAt_2)&&decide (numberAt_2≤(w64 (numberAt_2+numberAt_1)))) ((Zbb text 10 4).bind fun numberAt_3=>
 ((ZdO numberAt_3).bind fun (r,r1,r2,r3,r4,r5,r6)=>
 (((bif (numberAt_==0) then (some (.inl (text,numberAt_,numberAt_1,numberAt_2,[],0,0,0,0,0,0,[],((text.drop 30).take numberAt_2.toNat),r,r1,r2,r3,r4,r5,(((text.drop 30).take (w64 (numberAt_2+numberAt_1)).toNat).drop numberAt_2.toNat)))) else
 (bif (numberAt_==8) then ((Zbq (((text.drop 30).take (w64 (numberAt_2+numberAt_1)).toNat).drop numberAt_2.toNat)).bind fun (r7,r8,r9)=>
 ((bif (!r9) then (some true) else
 (some (r8 != numberAt_1))).bind fun c1=>
 (bif c1 then ((some ([],0,0,0,0,0,0,[],0,false)).map Sum.inr) else
 (some (.inl (text,numberAt_,numberAt_1,numberAt_2,[],0,0,0,0,0,0,[],((text.drop 30).take numberAt_2.toNat),r,r1,r2,r3,r4,r5,r7)))))) else
 ((some ([],0,0,0,0,0,0,[],0,false)).map Sum.inr))):Option ((Str×Int×Int×Int×Str×Int×Int×Int×Int×Int×Int×Str×Str×Int×Int×Int×Int×Int×Int×Str)⊕(Str×Int×Int×Int×Int×Int×Int×Str×Int×Bool))).bind fun r=>match r with
 | .inl (text1,method,packed,name,o,o1,o2,o3,o4,o5,o6,o7,o8,o9,o10,o11,o12,o13,o14,o15)=>(((ZbG o8 o9 o10 o11 o12 o13 o14 o15).bind fun EntryOk=>
 (bif (!EntryOk) then (some true) else
 ((Zej o8 o9 o10 o11 o12 o13 o14 o15 method packed).bind fun headOf_=>
 (need (decide (0≤(30:Int))&&decide ((30:Int)≤text1.length)) (some (!(headOf_==(text1.take 30)))))))).bind fun c2=>
 (bif c2 then (some ([],0,0,0,0,0,0,[],0,false)) else
 (some (o8,o9,o10,o11,o12,o13,o14,o15,(w64 ((w64 (30+name))+packed)),true))))
 | .inr r=>some r)))))))))))))
def joinS (xs:List Str) (sep:Str):Option (Str):=need (fits xs.length&&fits (Zs1 xs sep).length) (some (Zs1 xs sep))
def Zbj.l0.step (again:((List (Str×Int×Int×Int×Int×Int×Int×Str))×Int×Int×List Str)→Option (List Str)):((List (Str×Int×Int×Int×Int×Int×Int×Str))×Int×Int×List Str)→Option (List Str):=fun (t,t1,t2,out)=>
 (bif (decide (t2<t1)) then (need (decide (0≤t2)&&decide (t2<t.length)) (need (fits (out.length+([(t.getD t2.toNat ([],0,0,0,0,0,0,[])).1]:List (Str)).length)) (again (t,t1,(w64 (t2+1)),(out++[(t.getD t2.toNat ([],0,0,0,0,0,0,[])).1]))))) else
 (some out))
def Zbj.l0:=ZaC Zbj.l0.step
theorem Zbj.l0.succ (n:Nat) t:Zbj.l0 (n+1) t=Zbj.l0.step (Zbj.l0 n) t:=rfl
def Zbj (list:List (Str×Int×Int×Int×Int×Int×Int×Str)):Option (List Str):=
 ((Zbj.l0 (((list.length:Int)-(0:Int)).toNat+1) (list,(list.length:Int),0,[])).bind fun out1=>
 (some out1))
def Zeo.l0.step (again:((List (Str×Int×Int×Int×Int×Int×Int×Str))×(List (Str×Int×Int×Int×Int×Int×Int×Str))×Int×Int)→Option ((List (Str×Int×Int×Int×Int×Int×Int×Str))⊕(Bool))):((List (Str×Int×Int×Int×Int×Int×Int×Str))×(List (Str×Int×Int×Int×Int×Int×Int×Str))×Int×Int)→Option ((List (Str×Int×Int×Int×Int×Int×Int×Str))⊕(Bool)):=fun (list1,t,t1,t2)=>
 (bif (decide (t2<t1)) then (need (decide (0≤t2)&&decide (t2<t.length)) ((ZbG ((t.getD t2.toNat ([],0,0,0,0,0,0,[])).1) ((t.getD t2.toNat ([],0,0,0,0,0,0,[])).2.1) ((t.getD t2.toNat ([],0,0,0,0,0,0,[])).2.2.1) ((t.getD t2.toNat ([],0,0,0,0,0,0,[])).2.2.2.1) ((t.getD t2.toNat ([],0,0,0,0,0,0,[])).2.2.2.2.1) ((t.getD t2.toNat ([],0,0,0,0,0,0,[])).2.2.2.2.2.1) ((t.getD t2.toNat ([],0,0,0,0,0,0,[])).2.2.2.2.2.2.1) ((t.getD t2.toNat ([],0,0,0,0,0,0,[])).2.2.2.2.2.2.2)).bind fun EntryOk=>
 (bif (!EntryOk) then ((some false).map Sum.inr) else
 (again (list1,t,t1,(w64 (t2+1))))))) else
 (some (.inl list1)))
def Zeo.l0:=ZaC Zeo.l0.step
theorem Zeo.l0.succ (n:Nat) t:Zeo.l0 (n+1) t=Zeo.l0.step (Zeo.l0 n) t:=rfl
def Zeo (list:List (Str×Int×Int×Int×Int×Int×Int×Str)):Option (Bool):=
 ((Zeo.l0 (((list.length:Int)-(0:Int)).toNat+1) (list,list,(list.length:Int),0)).bind fun r=>match r with
 | .inl list2=>(bif (decide ((list2.length:Int)≤6)) then ((Zbj list2).bind fun namesOf_=>
 ((ZcQ namesOf_).bind fun apart_=>
 (some apart_))) else
 (some false))
 | .inr r=>some r)
def ZbL.l0.step (again:(List Str×Str×Int×List Str×Int×Int)→Option (List Str×Str×Int)):(List Str×Str×Int×List Str×Int×Int)→Option (List Str×Str×Int):=fun (locals1,heads,at_,t,t1,t2)=>
 (bif (decide (t2<t1)) then (need (decide (0≤t2)&&decide (t2<t.length)) ((Zbb (t.getD t2.toNat []) 26 2).bind fun numberAt_=>
 ((ZbC 20 2).bind fun number_=>
 (need (fits (([80,75,1,2]:Str).length+number_.length)) (need (decide (0≤(30:Int))&&decide ((30:Int)≤(t.getD t2.toNat []).length)) (need (decide (0≤(4:Int))&&decide ((4:Int)≤(30:Int))) (need (fits (([80,75,1,2]++number_).length+(((t.getD t2.toNat []).take 30).drop 4).length)) ((ZbC 0 10).bind fun number_1=>
 (need (fits ((([80,75,1,2]++number_)++(((t.getD t2.toNat []).take 30).drop 4)).length+number_1.length)) ((ZbC at_ 4).bind fun number_2=>
 (need (fits (((([80,75,1,2]++number_)++(((t.getD t2.toNat []).take 30).drop 4))++number_1).length+number_2.length)) (need (decide (0≤(w64 (30+numberAt_)))&&decide ((w64 (30+numberAt_))≤(t.getD t2.toNat []).length)) (need (decide (0≤(30:Int))&&decide ((30:Int)≤(w64 (30+numberAt_)))) (need (fits ((((([80,75,1,2]++number_)++(((t.getD t2.toNat []).take 30).drop 4))++number_1)++number_2).length+(((t.getD t2.toNat []).take (w64 (30+numberAt_)).toNat).drop 30).length)) (need (fits (heads.length+((((([80,75,1,2]++number_)++(((t.getD t2.toNat []).take 30).drop 4))++number_1)++number_2)++(((t.getD t2.toNat []).take (w64 (30+numberAt_)).toNat).drop 30)).length)) (again (locals1,(heads++((((([80,75,1,2]++number_)++(((t.getD t2.toNat []).take 30).drop 4))++number_1)++number_2)++(((t.getD t2.toNat []).take (w64 (30+numberAt_)).toNat).drop 30))),(w64 (at_+((t.getD t2.toNat []).length:Int))),t,t1,(w64 (t2+1))))))))))))))))))) else
 (some (locals1,heads,at_)))
def ZbL.l0:=ZaC ZbL.l0.step
theorem ZbL.l0.succ (n:Nat) t:ZbL.l0 (n+1) t=ZbL.l0.step (ZbL.l0 n) t:=rfl
def ZbL (locals:List Str):Option (Str):=
 ((ZbL.l0 (((locals.length:Int)-(0:Int)).toNat+1) (locals,[],0,locals,(locals.length:Int),0)).bind fun (locals2,heads1,at_1)=>
 ((ZbC (locals2.length:Int) 2).bind fun number_3=>
 (need (fits (heads1.length+([80,75,5,6]:Str).length)) ((ZbC 0 4).bind fun number_4=>
 (need (fits ((heads1++[80,75,5,6]).length+number_4.length)) (need (fits (((heads1++[80,75,5,6])++number_4).length+number_3.length)) (need (fits ((((heads1++[80,75,5,6])++number_4)++number_3).length+number_3.length)) ((ZbC (heads1.length:Int) 4).bind fun number_5=>
 (need (fits (((((heads1++[80,75,5,6])++number_4)++number_3)++number_3).length+number_5.length)) ((ZbC at_1 4).bind fun number_6=>
 (need (fits ((((((heads1++[80,75,5,6])++number_4)++number_3)++number_3)++number_5).length+number_6.length)) ((ZbC 0 2).bind fun number_7=>
 (need (fits (((((((heads1++[80,75,5,6])++number_4)++number_3)++number_3)++number_5)++number_6).length+number_7.length)) (some (((((((heads1++[80,75,5,6])++number_4)++number_3)++number_3)++number_5)++number_6)++number_7)))))))))))))))
def Za6.l0.step (again:((List (Str×Int×Int×Int×Int×Int×Int×Str))×Int×Int×List Str)→Option (List Str)):((List (Str×Int×Int×Int×Int×Int×Int×Str))×Int×Int×List Str)→Option (List Str):=fun (t,t1,t2,locals)=>
 (bif (decide (t2<t1)) then (need (decide (0≤t2)&&decide (t2<t.length)) ((ZdQ ((t.getD t2.toNat ([],0,0,0,0,0,0,[])).1) ((t.getD t2.toNat ([],0,0,0,0,0,0,[])).2.1) ((t.getD t2.toNat ([],0,0,0,0,0,0,[])).2.2.1) ((t.getD t2.toNat ([],0,0,0,0,0,0,[])).2.2.2.1) ((t.getD t2.toNat ([],0,0,0,0,0,0,[])).2.2.2.2.1) ((t.getD t2.toNat ([],0,0,0,0,0,0,[])).2.2.2.2.2.1) ((t.getD t2.toNat ([],0,0,0,0,0,0,[])).2.2.2.2.2.2.1) ((t.getD t2.toNat ([],0,0,0,0,0,0,[])).2.2.2.2.2.2.2)).bind fun LocalPut=>
 (need (fits (locals.length+([LocalPut]:List (Str)).length)) (again (t,t1,(w64 (t2+1)),(locals++[LocalPut])))))) else
 (some locals))
def Za6.l0:=ZaC Za6.l0.step
theorem Za6.l0.succ (n:Nat) t:Za6.l0 (n+1) t=Za6.l0.step (Za6.l0 n) t:=rfl
def Za6 (list:List (Str×Int×Int×Int×Int×Int×Int×Str)):Option (Str):=
 ((Zeo list).bind fun ZipOk=>
 (bif (!ZipOk) then (some []) else
 ((Za6.l0 (((list.length:Int)-(0:Int)).toNat+1) (list,(list.length:Int),0,[])).bind fun locals1=>
 ((joinS locals1 []).bind fun Join=>
 ((ZbL locals1).bind fun closing_=>
 (need (fits (Join.length+closing_.length)) (some (Join++closing_))))))))
def ZaA.l0.step (again:(Str×(List (Str×Int×Int×Int×Int×Int×Int×Str))×List Str)→Option (Str×(List (Str×Int×Int×Int×Int×Int×Int×Str))×List Str)):(Str×(List (Str×Int×Int×Int×Int×Int×Int×Str))×List Str)→Option (Str×(List (Str×Int×Int×Int×Int×Int×Int×Str))×List Str):=fun (rest,out,locals)=>
 (bif (decide ((out.length:Int)<6)) then ((ZdR rest).bind fun (r,r1,r2,r3,r4,r5,r6,r7,r8,r9)=>
 (bif (!r9) then (some (rest,out,locals)) else
 (need (fits (out.length+([(r,r1,r2,r3,r4,r5,r6,r7)]:List (Str×Int×Int×Int×Int×Int×Int×Str)).length)) (need (decide (0≤r8)&&decide (r8≤rest.length)) (need (fits (locals.length+([(rest.take r8.toNat)]:List (Str)).length)) (need (decide (0≤r8)&&decide (r8≤rest.length)) (again ((rest.drop r8.toNat),(out++[(r,r1,r2,r3,r4,r5,r6,r7)]),(locals++[(rest.take r8.toNat)]))))))))) else
 (some (rest,out,locals)))
def ZaA.l0:=ZaC ZaA.l0.step
theorem ZaA.l0.succ (n:Nat) t:ZaA.l0 (n+1) t=ZaA.l0.step (ZaA.l0 n) t:=rfl
def ZaA (text:Str):Option (Bool×List (Str×Int×Int×Int×Int×Int×Int×Str)):=
 ((ZaA.l0 ((6-(([]:List (Str×Int×Int×Int×Int×Int×Int×Str)).length:Int)).toNat+1) (text,[],[])).bind fun (rest1,out1,locals1)=>
 (((Zeo out1).bind fun ZipOk=>
 (bif (!ZipOk) then (some true) else
 ((ZbL locals1).bind fun closing_=>
 (some (!(rest1==closing_)))))).bind fun c=>
 (bif c then (some (false,[])) else
 (some (true,out1)))))
def ZdM (text:Str):Option (List Str):=
 ((ZaA text).bind fun (r,r1)=>
 ((Zbj r1).bind fun namesOf_=>
 (some namesOf_)))
def Zbm.l0.step (again:(Str×Int×Int×List (Str×Int×Int×Int×Int×Int×Int×Str))→Option ((Unit)⊕(Str×Bool))):(Str×Int×Int×List (Str×Int×Int×Int×Int×Int×Int×Str))→Option ((Unit)⊕(Str×Bool)):=fun (name1,t,t1,o)=>
 (bif (decide (t1<t)) then (need (decide (0≤t1)&&decide (t1<o.length)) (bif ((o.getD t1.toNat ([],0,0,0,0,0,0,[])).1==name1) then ((some ((o.getD t1.toNat ([],0,0,0,0,0,0,[])).2.2.2.2.2.2.2,true)).map Sum.inr) else
 (again (name1,t,(w64 (t1+1)),o)))) else
 (some (.inl ())))
def Zbm.l0:=ZaC Zbm.l0.step
theorem Zbm.l0.succ (n:Nat) t:Zbm.l0 (n+1) t=Zbm.l0.step (Zbm.l0 n) t:=rfl
def Zbm (text:Str) (name:Str):Option (Str×Bool):=
 ((ZaA text).bind fun (r,r1)=>
 ((Zbm.l0 (((r1.length:Int)-(0:Int)).toNat+1) (name,(r1.length:Int),0,r1)).bind fun r=>match r with
 | .inl _=>(some ([],false))
 | .inr r=>some r))
def ZcZ (name:Str) (y:Int) (mo:Int) (d:Int) (h:Int) (mi:Int) (sec:Int) (text:Str) (list:List (Str×Int×Int×Int×Int×Int×Int×Str)):Option (Int×List (Str×Int×Int×Int×Int×Int×Int×Str)):=
 ((ZbG name y mo d h mi sec text).bind fun EntryOk=>
 (bif (!EntryOk) then (some (1,[])) else
 ((Zbj list).bind fun namesOf_=>
 (need (fits (namesOf_.length+([name]:List (Str)).length)) ((ZcQ (namesOf_++[name])).bind fun apart_=>
 (bif (!apart_) then (some (3,[])) else
 (bif ((list.length:Int)==6) then (some (4,[])) else
 (need (fits (list.length+([(name,y,mo,d,h,mi,sec,text)]:List (Str×Int×Int×Int×Int×Int×Int×Str)).length)) (some (0,(list++[(name,y,mo,d,h,mi,sec,text)])))))))))))
def ZkO (ename:Str) (ey:Int) (emo:Int) (ed:Int) (eh:Int) (emi:Int) (esec:Int) (etext:Str) (name:Str):Option (Bool×Str):=
 (some ((ename==name),name))
def Za8.l0.step (again:((List (Str×Int×Int×Int×Int×Int×Int×Str))×Int×Int×Str)→Option ((Str)⊕(Int×Str))):((List (Str×Int×Int×Int×Int×Int×Int×Str))×Int×Int×Str)→Option ((Str)⊕(Int×Str)):=fun (s,t,t1,o)=>
 (bif (decide (t1<t)) then (need (decide (0≤t1)&&decide (t1<s.length)) ((ZkO ((s.getD t1.toNat ([],0,0,0,0,0,0,[])).1) ((s.getD t1.toNat ([],0,0,0,0,0,0,[])).2.1) ((s.getD t1.toNat ([],0,0,0,0,0,0,[])).2.2.1) ((s.getD t1.toNat ([],0,0,0,0,0,0,[])).2.2.2.1) ((s.getD t1.toNat ([],0,0,0,0,0,0,[])).2.2.2.2.1) ((s.getD t1.toNat ([],0,0,0,0,0,0,[])).2.2.2.2.2.1) ((s.getD t1.toNat ([],0,0,0,0,0,0,[])).2.2.2.2.2.2.1) ((s.getD t1.toNat ([],0,0,0,0,0,0,[])).2.2.2.2.2.2.2) o).bind fun (r,r1)=>
 (bif r then ((some (t1,r1)).map Sum.inr) else
 (again (s,t,(w64 (t1+1)),r1))))) else
 (some (.inl o)))
def Za8.l0:=ZaC Za8.l0.step
theorem Za8.l0.succ (n:Nat) t:Za8.l0 (n+1) t=Za8.l0.step (Za8.l0 n) t:=rfl
def Za8 (list:List (Str×Int×Int×Int×Int×Int×Int×Str)) (name:Str):Option (Int×Str):=
 ((Za8.l0 (((list.length:Int)-(0:Int)).toNat+1) (list,(list.length:Int),0,name)).bind fun r=>match r with
 | .inl o1=>(some ((-1),o1))
 | .inr r=>some r)
def find (list:List (Str×Int×Int×Int×Int×Int×Int×Str)) (name:Str):Option (Int):=
 ((Za8 list name).bind fun (r,r1)=>
 (some r))
def Zh4 (i:Int) (j:Int) (list:List (Str×Int×Int×Int×Int×Int×Int×Str)):Option (List (Str×Int×Int×Int×Int×Int×Int×Str)):=need (decide (0≤i)&&(decide (i≤j)&&decide (j≤list.length))) (some (list.take i.toNat++list.drop j.toNat))
def ZeX (name:Str) (y:Int) (mo:Int) (d:Int) (h:Int) (mi:Int) (sec:Int) (text:Str) (list:List (Str×Int×Int×Int×Int×Int×Int×Str)):Option (Int×Str×Int×Int×Int×Int×Int×Int×Str×List (Str×Int×Int×Int×Int×Int×Int×Str)):=
 ((ZcZ name y mo d h mi sec text list).bind fun (r,r1)=>
 (some (r,name,y,mo,d,h,mi,sec,text,r1)))
def Zd2 (name:Str) (y:Int) (mo:Int) (d:Int) (h:Int) (mi:Int) (sec:Int) (text:Str) (list:List (Str×Int×Int×Int×Int×Int×Int×Str)):Option (Int×Str×Int×Int×Int×Int×Int×Int×Str×List (Str×Int×Int×Int×Int×Int×Int×Str)):=
 ((find list name).bind fun find_=>
 ((ZbG name y mo d h mi sec text).bind fun EntryOk=>
 (bif (!EntryOk) then (some (1,name,y,mo,d,h,mi,sec,text,[])) else
 (bif (decide (find_<0)) then (some (2,name,y,mo,d,h,mi,sec,text,[])) else
 (need (decide (0≤find_)&&decide (find_<list.length)) (some (0,name,y,mo,d,h,mi,sec,text,(list.set find_.toNat (name,y,mo,d,h,mi,sec,text)))))))))
def Zd4 (name:Str) (list:List (Str×Int×Int×Int×Int×Int×Int×Str)):Option (Int×Str×List (Str×Int×Int×Int×Int×Int×Int×Str)):=
 ((find list name).bind fun find_=>
 (bif (decide (find_<0)) then (some (2,name,[])) else
 ((Zh4 find_ (w64 (find_+1)) list).bind fun Entry=>
 (some (0,name,Entry)))))
def Zd3 (name:Str) (to_:Str) (list:List (Str×Int×Int×Int×Int×Int×Int×Str)):Option (Int×Str×Str×List (Str×Int×Int×Int×Int×Int×Int×Str)):=
 ((find list name).bind fun find_=>
 ((ZaO to_).bind fun NameOk=>
 (bif (!NameOk) then (some (1,name,to_,[])) else
 (bif (decide (find_<0)) then (some (2,name,to_,[])) else
 (need (decide (0≤find_)&&decide (find_<list.length)) ((Zbj (list.set find_.toNat (to_,(list.getD find_.toNat ([],0,0,0,0,0,0,[])).2.1,(list.getD find_.toNat ([],0,0,0,0,0,0,[])).2.2.1,(list.getD find_.toNat ([],0,0,0,0,0,0,[])).2.2.2.1,(list.getD find_.toNat ([],0,0,0,0,0,0,[])).2.2.2.2.1,(list.getD find_.toNat ([],0,0,0,0,0,0,[])).2.2.2.2.2.1,(list.getD find_.toNat ([],0,0,0,0,0,0,[])).2.2.2.2.2.2.1,(list.getD find_.toNat ([],0,0,0,0,0,0,[])).2.2.2.2.2.2.2))).bind fun namesOf_=>
 ((ZcQ namesOf_).bind fun apart_=>
 (bif (!apart_) then (some (3,name,to_,[])) else
 (some (0,name,to_,(list.set find_.toNat (to_,(list.getD find_.toNat ([],0,0,0,0,0,0,[])).2.1,(list.getD find_.toNat ([],0,0,0,0,0,0,[])).2.2.1,(list.getD find_.toNat ([],0,0,0,0,0,0,[])).2.2.2.1,(list.getD find_.toNat ([],0,0,0,0,0,0,[])).2.2.2.2.1,(list.getD find_.toNat ([],0,0,0,0,0,0,[])).2.2.2.2.2.1,(list.getD find_.toNat ([],0,0,0,0,0,0,[])).2.2.2.2.2.2.1,(list.getD find_.toNat ([],0,0,0,0,0,0,[])).2.2.2.2.2.2.2))))))))))))
def ZbI.l0.step (again:(Int×Int×(List (Str×Int×Int×Int×Int×Int×Int×Str))×List (Str×Int×Int×Int×Int×Int×Int×Str))→Option (((List (Str×Int×Int×Int×Int×Int×Int×Str))×List (Str×Int×Int×Int×Int×Int×Int×Str))⊕(Int×(List (Str×Int×Int×Int×Int×Int×Int×Str))×List (Str×Int×Int×Int×Int×Int×Int×Str)))):(Int×Int×(List (Str×Int×Int×Int×Int×Int×Int×Str))×List (Str×Int×Int×Int×Int×Int×Int×Str))→Option (((List (Str×Int×Int×Int×Int×Int×Int×Str))×List (Str×Int×Int×Int×Int×Int×Int×Str))⊕(Int×(List (Str×Int×Int×Int×Int×Int×Int×Str))×List (Str×Int×Int×Int×Int×Int×Int×Str))):=fun (t,t1,o,list1)=>
 (bif (decide (t1<t)) then (need (decide (0≤t1)&&decide (t1<o.length)) ((ZcZ ((o.getD t1.toNat ([],0,0,0,0,0,0,[])).1) ((o.getD t1.toNat ([],0,0,0,0,0,0,[])).2.1) ((o.getD t1.toNat ([],0,0,0,0,0,0,[])).2.2.1) ((o.getD t1.toNat ([],0,0,0,0,0,0,[])).2.2.2.1) ((o.getD t1.toNat ([],0,0,0,0,0,0,[])).2.2.2.2.1) ((o.getD t1.toNat ([],0,0,0,0,0,0,[])).2.2.2.2.2.1) ((o.getD t1.toNat ([],0,0,0,0,0,0,[])).2.2.2.2.2.2.1) ((o.getD t1.toNat ([],0,0,0,0,0,0,[])).2.2.2.2.2.2.2) list1).bind fun (r,r1)=>
 (bif (r != 0) then ((some (r,o,[])).map Sum.inr) else
 (again (t,(w64 (t1+1)),o,r1))))) else
 (some (.inl (o,list1))))
def ZbI.l0:=ZaC ZbI.l0.step
theorem ZbI.l0.succ (n:Nat) t:ZbI.l0 (n+1) t=ZbI.l0.step (ZbI.l0 n) t:=rfl
def ZbI (more:List (Str×Int×Int×Int×Int×Int×Int×Str)) (list:List (Str×Int×Int×Int×Int×Int×Int×Str)):Option (Int×(List (Str×Int×Int×Int×Int×Int×Int×Str))×List (Str×Int×Int×Int×Int×Int×Int×Str)):=
 ((ZbI.l0 (((more.length:Int)-(0:Int)).toNat+1) ((more.length:Int),0,more,list)).bind fun r=>match r with
 | .inl (o1,list2)=>(some (0,o1,list2))
 | .inr r=>some r)
def ZcC (text:Str) (name:Str) (y:Int) (mo:Int) (d:Int) (h:Int) (mi:Int) (sec:Int) (text1:Str):Option (Str×Int×Str×Int×Int×Int×Int×Int×Int×Str):=
 ((ZaA text).bind fun (r,r1)=>
 (bif (!r) then (some ([],1,name,y,mo,d,h,mi,sec,text1)) else
 ((ZeX name y mo d h mi sec text1 r1).bind fun (r2,r3,r4,r5,r6,r7,r8,r9,r10,r11)=>
 (bif (r2 != 0) then (some (text,r2,r3,r4,r5,r6,r7,r8,r9,r10)) else
 ((Za6 r11).bind fun ZipPut=>
 (some (ZipPut,0,r3,r4,r5,r6,r7,r8,r9,r10)))))))
def ZbM (text:Str) (name:Str) (y:Int) (mo:Int) (d:Int) (h:Int) (mi:Int) (sec:Int) (text1:Str):Option (Str×Int×Str×Int×Int×Int×Int×Int×Int×Str):=
 ((ZaA text).bind fun (r,r1)=>
 (bif (!r) then (some ([],1,name,y,mo,d,h,mi,sec,text1)) else
 ((Zd2 name y mo d h mi sec text1 r1).bind fun (r2,r3,r4,r5,r6,r7,r8,r9,r10,r11)=>
 (bif (r2 != 0) then (some (text,r2,r3,r4,r5,r6,r7,r8,r9,r10)) else
 ((Za6 r11).bind fun ZipPut=>
 (some (ZipPut,0,r3,r4,r5,r6,r7,r8,r9,r10)))))))
def ZbP (text:Str) (name:Str):Option (Str×Int×Str):=
 ((ZaA text).bind fun (r,r1)=>
 (bif (!r) then (some ([],1,name)) else
 ((Zd4 name r1).bind fun (r2,r3,r4)=>
 (bif (r2 != 0) then (some (text,r2,r3)) else
 ((Za6 r4).bind fun ZipPut=>
 (some (ZipPut,0,r3)))))))
def ZbN (text:Str) (name:Str) (to_:Str):Option (Str×Int×Str×Str):=
 ((ZaA text).bind fun (r,r1)=>
 (bif (!r) then (some ([],1,name,to_)) else
 ((Zd3 name to_ r1).bind fun (r2,r3,r4,r5)=>
 (bif (r2 != 0) then (some (text,r2,r3,r4)) else
 ((Za6 r5).bind fun ZipPut=>
 (some (ZipPut,0,r3,r4)))))))
def ZbO (text:Str) (more:List (Str×Int×Int×Int×Int×Int×Int×Str)):Option (Str×Int×List (Str×Int×Int×Int×Int×Int×Int×Str)):=
 ((ZaA text).bind fun (r,r1)=>
 (bif (!r) then (some ([],1,more)) else
 ((ZbI more r1).bind fun (r2,r3,r4)=>
 (bif (r2 != 0) then (some (text,r2,r3)) else
 ((Za6 r4).bind fun ZipPut=>
 (some (ZipPut,0,r3)))))))
def Zdk (text:Str) (ename:Str) (ey:Int) (emo:Int) (ed:Int) (eh:Int) (emi:Int) (esec:Int) (etext:Str):Option (Str×Int):=
 (Zf1 (ZcC text ename ey emo ed eh emi esec etext) (fun (r,r1,r2,r3,r4,r5,r6,r7,r8,r9)=>
 (some (r,r1))) none)
def Zen (text:Str) (ename:Str) (ey:Int) (emo:Int) (ed:Int) (eh:Int) (emi:Int) (esec:Int) (etext:Str):Option (Str×Int):=
 (Zf1 (ZbM text ename ey emo ed eh emi esec etext) (fun (r,r1,r2,r3,r4,r5,r6,r7,r8,r9)=>
 (some (r,r1))) none)
def Zdj (text:Str) (name:Str):Option (Str×Int):=
 (Zf1 (ZbP text name) (fun (r,r1,r2)=>
 (some (r,r1))) none)
def Zea (text:Str) (name:Str) (to_:Str):Option (Str×Int):=
 (Zf1 (ZbN text name to_) (fun (r,r1,r2,r3)=>
 (some (r,r1))) none)
def Zdi (a:Str) (b:Str):Option (Str×Int):=
 ((ZaA b).bind fun (r,r1)=>
 (bif (!r) then (some ([],1)) else
 ((ZbO a r1).bind fun (r2,r3,r4)=>
 (some (r2,r3)))))
def Zt2:Nat→Int→Option (Str)
 | 0,_=>none
 | k_+1,n=>
 (bif (decide (n<(-9223372036854775807))) then (some [45,57,50,50,51,51,55,50,48,51,54,56,53,52,55,55,53,56,48,56]) else
 (bif (decide (n<0)) then ((Zt2 k_ (w64 (0-n))).bind fun l1Dec_=>
 (need (fits (([45]:Str).length+l1Dec_.length)) (some ([45]++l1Dec_)))) else
 (bif (decide (n<10)) then (some (ZbF [(IntKind.wrap .u8 (w64 (48+n)))])) else
 ((Zt2 k_ (w64 (n.tdiv 10))).bind fun l1Dec_1=>
 (need (fits (l1Dec_1.length+(ZbF [(IntKind.wrap .u8 (w64 (48+(n.tmod 10))))]).length)) (some (l1Dec_1++(ZbF [(IntKind.wrap .u8 (w64 (48+(n.tmod 10))))]))))))))
def ZgK (n:Int):Option (Str):=Zt2 30 n
def Zc0.l0.step (again:(Int×Int)→Option (Int)):(Int×Int)→Option (Int):=fun (n1,out)=>
 (bif (decide (n1>0)) then (again ((w64 (n1-1)),(w64 (2*out)))) else
 (some out))
def Zc0.l0:=ZaC Zc0.l0.step
theorem Zc0.l0.succ (n:Nat) t:Zc0.l0 (n+1) t=Zc0.l0.step (Zc0.l0 n) t:=rfl
def Zc0 (n:Int):Option (Int):=
 ((Zc0.l0 ((n-0).toNat+1) (n,1)).bind fun out1=>
 (some out1))
def Zev.l0.step (again:(Int×Int×Int×Int×Int×List Int)→Option (Int×Int×List Int)):(Int×Int×Int×Int×Int×List Int)→Option (Int×Int×List Int):=fun (num1,bits1,k,o,o1,o2)=>
 (bif (decide (k<bits1)) then ((Zc0 o1).bind fun l1Pow_=>
 (bif ((w64 (o1+1))==8) then (need (fits (o2.length+([(IntKind.wrap .u8 (w64 (o+(w64 ((num1.tmod 2)*l1Pow_)))))]:List (Int)).length)) (again ((w64 (num1.tdiv 2)),bits1,(w64 (k+1)),0,0,(o2++[(IntKind.wrap .u8 (w64 (o+(w64 ((num1.tmod 2)*l1Pow_)))))])))) else
 (again ((w64 (num1.tdiv 2)),bits1,(w64 (k+1)),(w64 (o+(w64 ((num1.tmod 2)*l1Pow_)))),(w64 (o1+1)),o2)))) else
 (some (o,o1,o2)))
def Zev.l0:=ZaC Zev.l0.step
theorem Zev.l0.succ (n:Nat) t:Zev.l0 (n+1) t=Zev.l0.step (Zev.l0 n) t:=rfl
def Zev (num:Int) (bits:Int) (last:Int) (fill:Int) (text:List Int):Option (Int×Int×List Int):=
 ((Zev.l0 ((bits-(0:Int)).toNat+1) (num,bits,0,last,fill,text)).bind fun (o3,o4,o5)=>
 (some (o3,o4,o5)))
def ZdU (last:Int) (fill:Int) (text:List Int):Option (Int×Int×List Int):=
 (bif (decide (fill>0)) then ((Zev 0 (w64 (8-fill)) last fill text).bind fun (r,r1,r2)=>
 (some (r,r1,r2))) else
 (some (last,fill,text)))
def Zkn (s:Str) (at_:Int) (bad:Bool):Option (Int×Str×Int×Bool):=
 (bif (decide (at_≥(w64 (8*(s.length:Int))))) then (some (0,s,at_,true)) else
 (need (decide (0≤(w64 (at_.tdiv 8)))&&decide ((w64 (at_.tdiv 8))<s.length)) ((Zc0 (at_.tmod 8)).bind fun l1Pow_=>
 (need (l1Pow_ != 0) (some (((w64 ((w64 ((s.getD (w64 (at_.tdiv 8)).toNat 0).toNat:Int)).tdiv l1Pow_)).tmod 2),s,(w64 (at_+1)),bad))))))
def Zfs.l0.step (again:(Int×Int×Int×Str×Int×Bool)→Option (Int×Str×Int×Bool)):(Int×Int×Int×Str×Int×Bool)→Option (Int×Str×Int×Bool):=fun (bits1,n,k,o,o1,o2)=>
 (bif (decide (k<bits1)) then ((Zkn o o1 o2).bind fun (r,r1,r2,r3)=>
 ((Zc0 k).bind fun l1Pow_=>
 (again (bits1,(w64 (n+(w64 (r*l1Pow_)))),(w64 (k+1)),r1,r2,r3)))) else
 (some (n,o,o1,o2)))
def Zfs.l0:=ZaC Zfs.l0.step
theorem Zfs.l0.succ (n:Nat) t:Zfs.l0 (n+1) t=Zfs.l0.step (Zfs.l0 n) t:=rfl
def Zfs (bits:Int) (s:Str) (at_:Int) (bad:Bool):Option (Int×Str×Int×Bool):=
 ((Zfs.l0 ((bits-(0:Int)).toNat+1) (bits,0,0,s,at_,bad)).bind fun (n1,o3,o4,o5)=>
 (some (n1,o3,o4,o5)))
def Zc4.l0.step (again:(Int×Str×Int×Bool)→Option (Int×Str×Int×Bool)):(Int×Str×Int×Bool)→Option (Int×Str×Int×Bool):=fun (n,o,o1,o2)=>
 (bif ((o1.tmod 8) != 0) then ((Zkn o o1 o2).bind fun (r,r1,r2,r3)=>
 (again ((w64 (n+r)),r1,r2,r3))) else
 (some (n,o,o1,o2)))
def Zc4.l0:=ZaC Zc4.l0.step
theorem Zc4.l0.succ (n:Nat) t:Zc4.l0 (n+1) t=Zc4.l0.step (Zc4.l0 n) t:=rfl
def Zc4 (s:Str) (at_:Int) (bad:Bool):Option (Bool×Str×Int×Bool):=
 ((Zc4.l0 (9) (0,s,at_,bad)).bind fun (n1,o3,o4,o5)=>
 (some ((n1==0),o3,o4,o5)))
def Zdp.l0.step (again:(Int×Int×Int×Int)→Option (Int)):(Int×Int×Int×Int)→Option (Int):=fun (num1,bits1,n,k)=>
 (bif (decide (k<bits1)) then (again ((w64 (num1.tdiv 2)),bits1,(w64 ((w64 (2*n))+(num1.tmod 2))),(w64 (k+1)))) else
 (some n))
def Zdp.l0:=ZaC Zdp.l0.step
theorem Zdp.l0.succ (n:Nat) t:Zdp.l0 (n+1) t=Zdp.l0.step (Zdp.l0 n) t:=rfl
def Zdp (num:Int) (bits:Int):Option (Int):=
 ((Zdp.l0 ((bits-(0:Int)).toNat+1) (num,bits,0,0)).bind fun n1=>
 (some n1))
def Zdo.l0.step (again:(Int×Int)→Option (Int)):(Int×Int)→Option (Int):=fun (c1,k)=>
 (bif (decide (k<8)) then (bif ((c1.tmod 2)==1) then (again ((ZlS .u32 (IntKind.wrap .u32 (c1.tdiv 2)) 3988292384),(w64 (k+1)))) else
 (again ((IntKind.wrap .u32 (c1.tdiv 2)),(w64 (k+1))))) else
 (some c1))
def Zdo.l0:=ZaC Zdo.l0.step
theorem Zdo.l0.succ (n:Nat) t:Zdo.l0 (n+1) t=Zdo.l0.step (Zdo.l0 n) t:=rfl
def Zdo (c:Int) (b:Int):Option (Int):=
 ((Zdo.l0 ((8-(0:Int)).toNat+1) ((ZlS .u32 c (IntKind.wrap .u32 b)),0)).bind fun c2=>
 (some c2))
def Zdt.l0.step (again:(Str×Int×Int)→Option (Int)):(Str×Int×Int)→Option (Int):=fun (text1,c,i)=>
 (bif (decide (i<(text1.length:Int))) then (need (decide (0≤i)&&decide (i<text1.length)) ((Zdo c ((text1.getD i.toNat 0).toNat:Int)).bind fun l2Step_=>
 (again (text1,l2Step_,(w64 (i+1)))))) else
 (some c))
def Zdt.l0:=ZaC Zdt.l0.step
theorem Zdt.l0.succ (n:Nat) t:Zdt.l0 (n+1) t=Zdt.l0.step (Zdt.l0 n) t:=rfl
def Zdt (crc_:Int) (text:Str):Option (Int):=
 ((Zdt.l0 (((text.length:Int)-(0:Int)).toNat+1) (text,(ZlS .u32 crc_ 4294967295),0)).bind fun c1=>
 (some (ZlS .u32 c1 4294967295)))
def ZdK (text:Str):Option (Int):=
 ((Zdt 0 text).bind fun l2More_=>
 (some (w64 l2More_)))
def ZcT.l0.step (again:(List Int×Int×Int)→Option (Int)):(List Int×Int×Int)→Option (Int):=fun (lens1,n,i)=>
 (bif (decide (i<(lens1.length:Int))) then (need (decide (0≤i)&&decide (i<lens1.length)) (bif (decide ((lens1.getD i.toNat 0)>0)) then (again (lens1,(w64 (n+1)),(w64 (i+1)))) else
 (again (lens1,n,(w64 (i+1)))))) else
 (some n))
def ZcT.l0:=ZaC ZcT.l0.step
theorem ZcT.l0.succ (n:Nat) t:ZcT.l0 (n+1) t=ZcT.l0.step (ZcT.l0 n) t:=rfl
def ZcT (lens:List Int):Option (Int):=
 ((ZcT.l0 (((lens.length:Int)-(0:Int)).toNat+1) (lens,0,0)).bind fun n1=>
 (some n1))
def ZaU.l0.step (again:(List Int×Int×Int)→Option ((List Int×Int)⊕(Bool))):(List Int×Int×Int)→Option ((List Int×Int)⊕(Bool)):=fun (lens1,sum,i)=>
 (bif (decide (i<(lens1.length:Int))) then (need (decide (0≤i)&&decide (i<lens1.length)) ((ZhH (lens1.getD i.toNat 0) 0 15).bind fun l1In_=>
 (bif (!l1In_) then ((some false).map Sum.inr) else
 (need (decide (0≤i)&&decide (i<lens1.length)) (bif (decide ((lens1.getD i.toNat 0)>0)) then (need (decide (0≤i)&&decide (i<lens1.length)) ((Zc0 (w64 (15-(lens1.getD i.toNat 0)))).bind fun l1Pow_=>
 (again (lens1,(w64 (sum+l1Pow_)),(w64 (i+1)))))) else
 (again (lens1,sum,(w64 (i+1))))))))) else
 (some (.inl (lens1,sum))))
def ZaU.l0:=ZaC ZaU.l0.step
theorem ZaU.l0.succ (n:Nat) t:ZaU.l0 (n+1) t=ZaU.l0.step (ZaU.l0 n) t:=rfl
def ZaU (lens:List Int):Option (Bool):=
 ((ZaU.l0 (((lens.length:Int)-(0:Int)).toNat+1) (lens,0,0)).bind fun r=>match r with
 | .inl (lens2,sum1)=>(((ZcT lens2).bind fun l3Used_=>
 (bif (l3Used_==1) then ((Zc0 14).bind fun l1Pow_1=>
 (some (sum1==l1Pow_1))) else
 (some false))).bind fun one=>
 ((bif (decide ((lens2.length:Int)≤300)) then ((Zc0 15).bind fun l1Pow_2=>
 (bif (sum1==l1Pow_2) then (some true) else
 (some one))) else
 (some false)).bind fun c=>
 (some c)))
 | .inr r=>some r)
def ZaP.l0.step (again:(List Int×Int×Int×Int×List Int)→Option (List Int×Int×Int×List Int)):(List Int×Int×Int×Int×List Int)→Option (List Int×Int×Int×List Int):=fun (lens2,code_1,n1,i,out1)=>
 (bif (decide (i<(lens2.length:Int))) then (need (decide (0≤i)&&decide (i<lens2.length)) (bif ((lens2.getD i.toNat 0)==n1) then (need (decide (0≤i)&&decide (i<out1.length)) (again (lens2,(w64 (code_1+1)),n1,(w64 (i+1)),(out1.set i.toNat code_1)))) else
 (again (lens2,code_1,n1,(w64 (i+1)),out1)))) else
 (some (lens2,code_1,n1,out1)))
def ZaP.l0:=ZaC ZaP.l0.step
theorem ZaP.l0.succ (n:Nat) t:ZaP.l0 (n+1) t=ZaP.l0.step (ZaP.l0 n) t:=rfl
def ZaP.l1.step (again:(List Int×Int×Int×List Int)→Option (List Int)):(List Int×Int×Int×List Int)→Option (List Int):=fun (lens1,code_,n,out)=>
 (bif (decide (n≤15)) then ((ZaP.l0 (((lens1.length:Int)-(0:Int)).toNat+1) (lens1,code_,n,0,out)).bind fun (lens3,code_2,n2,out2)=>
 (again (lens3,(w64 (2*code_2)),(w64 (n2+1)),out2))) else
 (some out))
def ZaP.l1:=ZaC ZaP.l1.step
theorem ZaP.l1.succ (n:Nat) t:ZaP.l1 (n+1) t=ZaP.l1.step (ZaP.l1 n) t:=rfl
def ZaP (lens:List Int):Option (List Int):=
 (need (decide (0≤(lens.length:Int))&&fits (lens.length:Int).toNat) ((ZaP.l1 ((15-(1:Int)).toNat+2) (lens,0,1,(List.replicate (lens.length:Int).toNat (0:Int)))).bind fun out3=>
 (some out3)))
def Zck.l0.step (again:((List (Int×Int×List Int))×Int×Int)→Option (Int)):((List (Int×Int×List Int))×Int×Int)→Option (Int):=fun (list1,at_,i)=>
 (bif (decide (i<(list1.length:Int))) then ((need (decide (0≤i)&&decide (i<list1.length)) (need (decide (0≤at_)&&decide (at_<list1.length)) (bif (decide ((list1.getD i.toNat (0,0,[])).1<(list1.getD at_.toNat (0,0,[])).1)) then (some true) else
 (need (decide (0≤i)&&decide (i<list1.length)) (need (decide (0≤at_)&&decide (at_<list1.length)) (bif ((list1.getD i.toNat (0,0,[])).1==(list1.getD at_.toNat (0,0,[])).1) then (need (decide (0≤i)&&decide (i<list1.length)) (need (decide (0≤at_)&&decide (at_<list1.length)) (some (decide ((list1.getD i.toNat (0,0,[])).2.1<(list1.getD at_.toNat (0,0,[])).2.1))))) else
 (some false))))))).bind fun c=>
 (bif c then (again (list1,i,(w64 (i+1)))) else
 (again (list1,at_,(w64 (i+1)))))) else
 (some at_))
def Zck.l0:=ZaC Zck.l0.step
theorem Zck.l0.succ (n:Nat) t:Zck.l0 (n+1) t=Zck.l0.step (Zck.l0 n) t:=rfl
def Zck (list:List (Int×Int×List Int)):Option (Int):=
 ((Zck.l0 (((list.length:Int)-(1:Int)).toNat+1) (list,0,1)).bind fun at_1=>
 (some at_1))
def Zf9 (list:List (Int×Int×List Int)) (at_:Int):Option (List (Int×Int×List Int)):=
 (need (decide (0≤at_)&&decide (at_≤list.length)) (need (fits (([]:List (Int×Int×List Int)).length+(list.take at_.toNat).length)) (need (decide (0≤(w64 (at_+1)))&&decide ((w64 (at_+1))≤list.length)) (need (fits (([]++(list.take at_.toNat)).length+(list.drop (w64 (at_+1)).toNat).length)) (some (([]++(list.take at_.toNat))++(list.drop (w64 (at_+1)).toNat)))))))
def Zbh.l1.step (again:(Int×Int×List Int×(List (Int×Int×List Int))×Int×Int×List Int×Int×Int×List Int×List Int)→Option (Int×List Int×(List (Int×Int×List Int))×Int×Int×List Int×Int×Int×List Int×List Int)):(Int×Int×List Int×(List (Int×Int×List Int))×Int×Int×List Int×Int×Int×List Int×List Int)→Option (Int×List Int×(List (Int×Int×List Int))×Int×Int×List Int×Int×Int×List Int×List Int):=fun (first1,i1,out5,list5,o6,o7,o8,o9,o10,o11,syms)=>
 (bif (decide (i1<(syms.length:Int))) then (need (decide (0≤i1)&&decide (i1<syms.length)) (need (decide (0≤i1)&&decide (i1<syms.length)) (need (decide (0≤(syms.getD i1.toNat 0))&&decide ((syms.getD i1.toNat 0)<out5.length)) (need (decide (0≤(syms.getD i1.toNat 0))&&decide ((syms.getD i1.toNat 0)<out5.length)) (again (first1,(w64 (i1+1)),(out5.set ((syms.getD i1.toNat 0).toNat) (w64 ((out5.getD ((syms.getD i1.toNat 0).toNat) 0)+1))),list5,o6,o7,o8,o9,o10,o11,syms)))))) else
 (some (first1,out5,list5,o6,o7,o8,o9,o10,o11,syms)))
def Zbh.l1:=ZaC Zbh.l1.step
theorem Zbh.l1.succ (n:Nat) t:Zbh.l1 (n+1) t=Zbh.l1.step (Zbh.l1 n) t:=rfl
def Zbh.l2.step (again:(List Int×List (Int×Int×List Int))→Option (List Int)):(List Int×List (Int×Int×List Int))→Option (List Int):=fun (out3,list3)=>
 (bif (decide ((list3.length:Int)>1)) then ((Zck list3).bind fun l3Least_=>
 (need (decide (0≤l3Least_)&&decide (l3Least_<list3.length)) ((Zf9 list3 l3Least_).bind fun l3Less_=>
 ((Zck l3Less_).bind fun l3Least_1=>
 (need (decide (0≤l3Least_1)&&decide (l3Least_1<l3Less_.length)) ((Zf9 l3Less_ l3Least_1).bind fun l3Less_1=>
 (((bif (decide ((l3Less_.getD l3Least_1.toNat (0,0,[])).2.1<(list3.getD l3Least_.toNat (0,0,[])).2.1)) then (some ((l3Less_.getD l3Least_1.toNat (0,0,[])).2.1,out3,l3Less_1,(list3.getD l3Least_.toNat (0,0,[])).1,(list3.getD l3Least_.toNat (0,0,[])).2.1,(list3.getD l3Least_.toNat (0,0,[])).2.2,(l3Less_.getD l3Least_1.toNat (0,0,[])).1,(l3Less_.getD l3Least_1.toNat (0,0,[])).2.1,(l3Less_.getD l3Least_1.toNat (0,0,[])).2.2)) else
 (some ((list3.getD l3Least_.toNat (0,0,[])).2.1,out3,l3Less_1,(list3.getD l3Least_.toNat (0,0,[])).1,(list3.getD l3Least_.toNat (0,0,[])).2.1,(list3.getD l3Least_.toNat (0,0,[])).2.2,(l3Less_.getD l3Least_1.toNat (0,0,[])).1,(l3Less_.getD l3Least_1.toNat (0,0,[])).2.1,(l3Less_.getD l3Least_1.toNat (0,0,[])).2.2))):Option (Int×List Int×(List (Int×Int×List Int))×Int×Int×List Int×Int×Int×List Int)).bind fun (first,out4,list4,o,o1,o2,o3,o4,o5)=>
 (need (fits (([]:List (Int)).length+o2.length)) (need (fits (([]++o2).length+o5.length)) ((Zbh.l1 ((((([]++o2)++o5).length:Int)-(0:Int)).toNat+1) (first,0,out4,list4,o,o1,o2,o3,o4,o5,(([]++o2)++o5))).bind fun (first2,out6,list6,o12,o13,o14,o15,o16,o17,syms1)=>
 (need (fits (list6.length+([((w64 (o12+o15)),first2,syms1)]:List (Int×Int×List Int)).length)) (again (out6,(list6++[((w64 (o12+o15)),first2,syms1)])))))))))))))) else
 (some out3))
def Zbh.l2:=ZaC Zbh.l2.step
theorem Zbh.l2.succ (n:Nat) t:Zbh.l2 (n+1) t=Zbh.l2.step (Zbh.l2 n) t:=rfl
def Zbh.l0.step (again:(List Int×Int×List Int×List (Int×Int×List Int))→Option (List Int×List (Int×Int×List Int))):(List Int×Int×List Int×List (Int×Int×List Int))→Option (List Int×List (Int×Int×List Int)):=fun (counts1,i,out,list)=>
 (bif (decide (i<(counts1.length:Int))) then (need (decide (0≤i)&&decide (i<counts1.length)) (bif (decide ((counts1.getD i.toNat 0)>0)) then (need (decide (0≤i)&&decide (i<counts1.length)) (need (fits (list.length+([((counts1.getD i.toNat 0),i,[i])]:List (Int×Int×List Int)).length)) (again (counts1,(w64 (i+1)),out,(list++[((counts1.getD i.toNat 0),i,[i])]))))) else
 (again (counts1,(w64 (i+1)),out,list)))) else
 (some (out,list)))
def Zbh.l0:=ZaC Zbh.l0.step
theorem Zbh.l0.succ (n:Nat) t:Zbh.l0 (n+1) t=Zbh.l0.step (Zbh.l0 n) t:=rfl
def Zbh (counts:List Int):Option (List Int):=
 (need (decide (0≤(counts.length:Int))&&fits (counts.length:Int).toNat) ((Zbh.l0 (((counts.length:Int)-(0:Int)).toNat+1) (counts,0,(List.replicate (counts.length:Int).toNat (0:Int)),[])).bind fun (out1,list1)=>
 (((bif ((list1.length:Int)==1) then (need (decide (0≤(0:Int))&&decide ((0:Int)<list1.length)) (need (decide (0≤(list1.getD 0 (0,0,[])).2.1)&&decide ((list1.getD 0 (0,0,[])).2.1<out1.length)) (some ((out1.set (((list1.getD 0 (0,0,[])).2.1).toNat) 1),list1)))) else
 (some (out1,list1))):Option (List Int×List (Int×Int×List Int))).bind fun (out2,list2)=>
 ((Zbh.l2 (((list2.length:Int)-1).toNat+1) (out2,list2)).bind fun out7=>
 (some out7)))))
def Zdn.l0.step (again:(List Int×Int×Int)→Option (Int)):(List Int×Int×Int)→Option (Int):=fun (lens1,n,i)=>
 (bif (decide (i<(lens1.length:Int))) then (need (decide (0≤i)&&decide (i<lens1.length)) (bif (decide ((lens1.getD i.toNat 0)>n)) then (need (decide (0≤i)&&decide (i<lens1.length)) (again (lens1,(lens1.getD i.toNat 0),(w64 (i+1))))) else
 (again (lens1,n,(w64 (i+1)))))) else
 (some n))
def Zdn.l0:=ZaC Zdn.l0.step
theorem Zdn.l0.succ (n:Nat) t:Zdn.l0 (n+1) t=Zdn.l0.step (Zdn.l0 n) t:=rfl
def Zdn (lens:List Int):Option (Int):=
 ((Zdn.l0 (((lens.length:Int)-(0:Int)).toNat+1) (lens,0,0)).bind fun n1=>
 (some n1))
def Zc7.l0.step (again:(Int×Int×List Int)→Option (Int×List Int)):(Int×Int×List Int)→Option (Int×List Int):=fun (most2,i,list1)=>
 (bif (decide (i<(list1.length:Int))) then (need (decide (0≤i)&&decide (i<list1.length)) (need (decide (0≤i)&&decide (i<list1.length)) (again (most2,(w64 (i+1)),(list1.set i.toNat (w64 ((w64 ((list1.getD i.toNat 0)+1)).tdiv 2))))))) else
 (some (most2,list1)))
def Zc7.l0:=ZaC Zc7.l0.step
theorem Zc7.l0.succ (n:Nat) t:Zc7.l0 (n+1) t=Zc7.l0.step (Zc7.l0 n) t:=rfl
def Zc7.l1.step (again:(Int×List Int×List Int)→Option (List Int)):(Int×List Int×List Int)→Option (List Int):=fun (most1,list,out)=>
 ((Zdn out).bind fun l3Most_=>
 (bif (decide (l3Most_>most1)) then ((Zc7.l0 (((list.length:Int)-(0:Int)).toNat+1) (most1,0,list)).bind fun (most3,list2)=>
 ((Zbh list2).bind fun l3Lens_1=>
 (again (most3,list2,l3Lens_1)))) else
 (some out)))
def Zc7.l1:=ZaC Zc7.l1.step
theorem Zc7.l1.succ (n:Nat) t:Zc7.l1 (n+1) t=Zc7.l1.step (Zc7.l1 n) t:=rfl
def Zc7 (counts:List Int) (most:Int):Option (List Int):=
 (need (fits (([]:List (Int)).length+counts.length)) ((Zbh ([]++counts)).bind fun l3Lens_=>
 ((Zc7.l1 (100000) (most,([]++counts),l3Lens_)).bind fun out1=>
 (some out1))))
def Ze5 (lens:List Int) (codes_:List Int) (sym:Int):Option (Int×Int):=
 (need (decide (0≤sym)&&decide (sym<codes_.length)) (need (decide (0≤sym)&&decide (sym<lens.length)) ((Zdp (codes_.getD sym.toNat 0) (lens.getD sym.toNat 0)).bind fun l1Turn_=>
 (need (decide (0≤sym)&&decide (sym<lens.length)) (some (l1Turn_,(lens.getD sym.toNat 0)))))))
def ZaX.l0.step (again:(List Int×List Int×Int×Int×Int×Str×Int×Bool)→Option ((List Int×List Int×Int×Int×Str×Int×Bool)⊕((Str×Int×Bool)⊕(Int×Str×Int×Bool)))):(List Int×List Int×Int×Int×Int×Str×Int×Bool)→Option ((List Int×List Int×Int×Int×Str×Int×Bool)⊕((Str×Int×Bool)⊕(Int×Str×Int×Bool))):=fun (lens2,codes_2,code_1,n1,i,o3,o4,o5)=>
 (bif (decide (i<(lens2.length:Int))) then ((need (decide (0≤i)&&decide (i<lens2.length)) (bif ((lens2.getD i.toNat 0)==n1) then (need (decide (0≤i)&&decide (i<codes_2.length)) (some ((codes_2.getD i.toNat 0)==code_1))) else
 (some false))).bind fun c1=>
 (bif c1 then (((some (i,o3,o4,o5)).map Sum.inr).map Sum.inr) else
 (again (lens2,codes_2,code_1,n1,(w64 (i+1)),o3,o4,o5)))) else
 (some (.inl (lens2,codes_2,code_1,n1,o3,o4,o5))))
def ZaX.l0:=ZaC ZaX.l0.step
theorem ZaX.l0.succ (n:Nat) t:ZaX.l0 (n+1) t=ZaX.l0.step (ZaX.l0 n) t:=rfl
def ZaX.l1.step (again:(List Int×List Int×Int×Int×Str×Int×Bool)→Option ((Str×Int×Bool)⊕(Int×Str×Int×Bool))):(List Int×List Int×Int×Int×Str×Int×Bool)→Option ((Str×Int×Bool)⊕(Int×Str×Int×Bool)):=fun (lens1,codes_1,code_,n,o,o1,o2)=>
 ((bif (decide (n≤15)) then (some (!o2)) else
 (some false)).bind fun c=>
 (bif c then ((Zkn o o1 o2).bind fun (r,r1,r2,r3)=>
 ((ZaX.l0 (((lens1.length:Int)-(0:Int)).toNat+1) (lens1,codes_1,(w64 ((w64 (2*code_))+r)),n,0,r1,r2,r3)).bind fun r=>match r with
 | .inl (lens3,codes_3,code_2,n2,o6,o7,o8)=>(again (lens3,codes_3,code_2,(w64 (n2+1)),o6,o7,o8))
 | .inr r=>some r)) else
 (some (.inl (o,o1,o2)))))
def ZaX.l1:=ZaC ZaX.l1.step
theorem ZaX.l1.succ (n:Nat) t:ZaX.l1 (n+1) t=ZaX.l1.step (ZaX.l1 n) t:=rfl
def ZaX (lens:List Int) (codes_:List Int) (s:Str) (at_:Int) (bad:Bool):Option (Int×Str×Int×Bool):=
 ((ZaX.l1 ((15-(1:Int)).toNat+2) (lens,codes_,0,1,s,at_,bad)).bind fun r=>match r with
 | .inl (o9,o10,o11)=>(some ((-1),o9,o10,true))
 | .inr r=>some r)
def Ze4.l0.step (again:(Int×List Int×Int×Int×Int)→Option (List Int)):(Int×List Int×Int×Int×Int)→Option (List Int):=fun (i,text1,o,o1,o2)=>
 (bif (decide (i<o1)) then (need (decide (0≤(w64 ((text1.length:Int)-o2)))&&decide ((w64 ((text1.length:Int)-o2))<text1.length)) (need (fits (text1.length+([(text1.getD ((w64 ((text1.length:Int)-o2)).toNat) 0)]:List (Int)).length)) (again ((w64 (i+1)),(text1++[(text1.getD ((w64 ((text1.length:Int)-o2)).toNat) 0)]),o,o1,o2)))) else
 (some text1))
def Ze4.l0:=ZaC Ze4.l0.step
theorem Ze4.l0.succ (n:Nat) t:Ze4.l0 (n+1) t=Ze4.l0.step (Ze4.l0 n) t:=rfl
def Ze4 (byte:Int) (long:Int) (back:Int) (text:List Int):Option (Bool×List Int):=
 (bif (long==0) then (need (fits (text.length+([(IntKind.wrap .u8 byte)]:List (Int)).length)) ((ZhH byte 0 255).bind fun l1In_=>
 (bif l1In_ then (some ((back==0),(text++[(IntKind.wrap .u8 byte)]))) else
 (some (false,(text++[(IntKind.wrap .u8 byte)])))))) else
 ((bif (byte != 0) then (some true) else
 ((ZhH long 3 60).bind fun l1In_1=>
 (bif (!l1In_1) then (some true) else
 ((ZhH back 1 250).bind fun l1In_2=>
 (bif (!l1In_2) then (some true) else
 (some (decide (back>(text.length:Int))))))))).bind fun c=>
 (bif c then (some (false,text)) else
 ((Ze4.l0 ((long-(0:Int)).toNat+1) (0,text,byte,long,back)).bind fun text2=>
 (some (true,text2))))))
def Zcr.l0.step (again:(Str×Int×Int×Int)→Option (Int)):(Str×Int×Int×Int)→Option (Int):=fun (text1,at_1,back1,n)=>
 ((bif (decide ((w64 (at_1+n))<(text1.length:Int))) then (bif (decide (n<60)) then (need (decide (0≤(w64 (at_1+n)))&&decide ((w64 (at_1+n))<text1.length)) (need (decide (0≤(w64 ((w64 (at_1+n))-back1)))&&decide ((w64 ((w64 (at_1+n))-back1))<text1.length)) (some (((text1.getD (w64 (at_1+n)).toNat 0).toNat:Int)==((text1.getD (w64 ((w64 (at_1+n))-back1)).toNat 0).toNat:Int))))) else
 (some false)) else
 (some false)).bind fun c=>
 (bif c then (again (text1,at_1,back1,(w64 (n+1)))) else
 (some n)))
def Zcr.l0:=ZaC Zcr.l0.step
theorem Zcr.l0.succ (n:Nat) t:Zcr.l0 (n+1) t=Zcr.l0.step (Zcr.l0 n) t:=rfl
def Zcr (text:Str) (at_:Int) (back:Int):Option (Int):=
 ((Zcr.l0 (62) (text,at_,back,0)).bind fun n1=>
 (some n1))
def ZaL.l0.step (again:(Str×Int×Int×Int×Int×List (Int×Int×Int))→Option (Str×Int×Int×Int×List (Int×Int×Int))):(Str×Int×Int×Int×Int×List (Int×Int×Int))→Option (Str×Int×Int×Int×List (Int×Int×Int)):=fun (text2,at_1,long,far,back,out1)=>
 ((bif (decide (back≤250)) then (some (decide (back≤at_1))) else
 (some false)).bind fun c=>
 (bif c then ((Zcr text2 at_1 back).bind fun l4Again_=>
 (bif (decide (l4Again_>long)) then (again (text2,at_1,l4Again_,back,(w64 (back+1)),out1)) else
 (again (text2,at_1,long,far,(w64 (back+1)),out1)))) else
 (some (text2,at_1,long,far,out1))))
def ZaL.l0:=ZaC ZaL.l0.step
theorem ZaL.l0.succ (n:Nat) t:ZaL.l0 (n+1) t=ZaL.l0.step (ZaL.l0 n) t:=rfl
def ZaL.l1.step (again:(Str×Int×List (Int×Int×Int))→Option (List (Int×Int×Int))):(Str×Int×List (Int×Int×Int))→Option (List (Int×Int×Int)):=fun (text1,at_,out)=>
 (bif (decide (at_<(text1.length:Int))) then ((ZaL.l0 ((250-(1:Int)).toNat+2) (text1,at_,0,0,1,out)).bind fun (text3,at_2,long1,far1,out2)=>
 (bif (decide (long1<3)) then (need (decide (0≤at_2)&&decide (at_2<text3.length)) (need (fits (out2.length+([((w64 ((text3.getD at_2.toNat 0).toNat:Int)),0,0)]:List (Int×Int×Int)).length)) (again (text3,(w64 (at_2+1)),(out2++[((w64 ((text3.getD at_2.toNat 0).toNat:Int)),0,0)]))))) else
 (need (fits (out2.length+([(0,long1,far1)]:List (Int×Int×Int)).length)) (again (text3,(w64 (at_2+long1)),(out2++[(0,long1,far1)])))))) else
 (some out))
def ZaL.l1:=ZaC ZaL.l1.step
theorem ZaL.l1.succ (n:Nat) t:ZaL.l1 (n+1) t=ZaL.l1.step (ZaL.l1 n) t:=rfl
def ZaL (text:Str):Option (List (Int×Int×Int)):=
 ((ZaL.l1 (((text.length:Int)-(0:Int)).toNat+1) (text,0,[])).bind fun out3=>
 (some out3))
def Zc6.l0.step (again:(List Int×Int×Int×List Int)→Option (List Int)):(List Int×Int×Int×List Int)→Option (List Int):=fun (extra1,from_1,i,out)=>
 (bif (decide (i<(extra1.length:Int))) then (need (fits (out.length+([from_1]:List (Int)).length)) (need (decide (0≤i)&&decide (i<extra1.length)) ((Zc0 (extra1.getD i.toNat 0)).bind fun l1Pow_=>
 (again (extra1,(w64 (from_1+l1Pow_)),(w64 (i+1)),(out++[from_1])))))) else
 (some out))
def Zc6.l0:=ZaC Zc6.l0.step
def Zc6 (extra:List Int) (from_:Int):Option (List Int):=
 ((Zc6.l0 (((extra.length:Int)-(0:Int)).toNat+1) (extra,from_,0,[])).bind fun out1=>
 (some out1))
def Zbc:Option (List Int):=
 (some [0,0,0,0,0,0,0,0,1,1,1,1,2,2,2,2,3,3,3,3,4,4,4,4,5,5,5,5])
def Zbd:Option (List Int):=
 (some [0,0,0,0,1,1,2,2,3,3,4,4,5,5,6,6,7,7,8,8,9,9,10,10,11,11,12,12,13,13])
def Zfm.l0.step (again:(List Int×Int×Int)→Option (Int)):(List Int×Int×Int)→Option (Int):=fun (base1,n1,k)=>
 ((bif (decide ((w64 (k+1))<(base1.length:Int))) then (need (decide (0≤(w64 (k+1)))&&decide ((w64 (k+1))<base1.length)) (some (decide ((base1.getD (w64 (k+1)).toNat 0)≤n1)))) else
 (some false)).bind fun c=>
 (bif c then (again (base1,n1,(w64 (k+1)))) else
 (some k)))
def Zfm.l0:=ZaC Zfm.l0.step
def Zfm (base:List Int) (n:Int):Option (Int):=
 ((Zfm.l0 ((base.length:Int).toNat+1) (base,n,0)).bind fun k1=>
 (some k1))
def Zdb.l0.step (again:(Int×List Int)→Option (List Int)):(Int×List Int)→Option (List Int):=fun (i,out)=>
 (bif (decide (i<288)) then (bif (decide (i<144)) then (need (fits (out.length+([8]:List (Int)).length)) (again ((w64 (i+1)),(out++[8])))) else
 (bif (decide (i<256)) then (need (fits (out.length+([9]:List (Int)).length)) (again ((w64 (i+1)),(out++[9])))) else
 (bif (decide (i<280)) then (need (fits (out.length+([7]:List (Int)).length)) (again ((w64 (i+1)),(out++[7])))) else
 (need (fits (out.length+([8]:List (Int)).length)) (again ((w64 (i+1)),(out++[8]))))))) else
 (some out))
def Zdb.l0:=ZaC Zdb.l0.step
def Zdb:Option (List Int):=
 ((Zdb.l0 ((288-(0:Int)).toNat+1) (0,[])).bind fun out1=>
 (some out1))
def Zdc.l0.step (again:(Int×List Int)→Option (List Int)):(Int×List Int)→Option (List Int):=fun (i,out)=>
 (bif (decide (i<32)) then (need (fits (out.length+([5]:List (Int)).length)) (again ((w64 (i+1)),(out++[5])))) else
 (some out))
def Zdc.l0:=ZaC Zdc.l0.step
def Zdc:Option (List Int):=
 ((Zdc.l0 ((32-(0:Int)).toNat+1) (0,[])).bind fun out1=>
 (some out1))
def ZnT (lens:List Int) (codes_:List Int) (sym:Int) (last:Int) (fill:Int) (text:List Int):Option (Int×Int×List Int):=
 ((Ze5 lens codes_ sym).bind fun (r,r1)=>
 ((Zev r r1 last fill text).bind fun (r2,r3,r4)=>
 (some (r2,r3,r4))))
def ZbS.l0.step (again:((List (Int×Int×Int))×List Int×List Int×Int×Int×Int×List Int×List Int×List Int×List Int×List Int)→Option (List Int×Int×Int×List Int×List Int)):((List (Int×Int×Int))×List Int×List Int×Int×Int×Int×List Int×List Int×List Int×List Int×List Int)→Option (List Int×Int×Int×List Int×List Int):=fun (list1,longs1,backs1,i,o,o1,a,b,long,back,o2)=>
 (bif (decide (i<(list1.length:Int))) then (need (decide (0≤i)&&decide (i<list1.length)) (bif ((list1.getD i.toNat (0,0,0)).2.1==0) then ((ZnT longs1 a ((list1.getD i.toNat (0,0,0)).1) o o1 o2).bind fun (r,r1,r2)=>
 (again (list1,longs1,backs1,(w64 (i+1)),r,r1,a,b,long,back,r2))) else
 ((Zfm long ((list1.getD i.toNat (0,0,0)).2.1)).bind fun l5Sym_=>
 ((ZnT longs1 a (w64 (257+l5Sym_)) o o1 o2).bind fun (r3,r4,r5)=>
 (need (decide (0≤l5Sym_)&&decide (l5Sym_<long.length)) ((Zbc).bind fun l5LongBi1=>
 (need (decide (0≤l5Sym_)&&decide (l5Sym_<l5LongBi1.length)) ((Zev (w64 ((list1.getD i.toNat (0,0,0)).2.1-(long.getD l5Sym_.toNat 0))) (l5LongBi1.getD l5Sym_.toNat 0) r3 r4 r5).bind fun (r6,r7,r8)=>
 ((Zfm back ((list1.getD i.toNat (0,0,0)).2.2)).bind fun l5Sym_1=>
 ((ZnT backs1 b l5Sym_1 r6 r7 r8).bind fun (r9,r10,r11)=>
 (need (decide (0≤l5Sym_1)&&decide (l5Sym_1<back.length)) ((Zbd).bind fun l5BackBi1=>
 (need (decide (0≤l5Sym_1)&&decide (l5Sym_1<l5BackBi1.length)) ((Zev (w64 ((list1.getD i.toNat (0,0,0)).2.2-(back.getD l5Sym_1.toNat 0))) (l5BackBi1.getD l5Sym_1.toNat 0) r9 r10 r11).bind fun (r12,r13,r14)=>
 (again (list1,longs1,backs1,(w64 (i+1)),r12,r13,a,b,long,back,r14)))))))))))))))) else
 (some (longs1,o,o1,a,o2)))
def ZbS.l0:=ZaC ZbS.l0.step
theorem ZbS.l0.succ (n:Nat) t:ZbS.l0 (n+1) t=ZbS.l0.step (ZbS.l0 n) t:=rfl
def ZbS (list:List (Int×Int×Int)) (longs:List Int) (backs:List Int) (last:Int) (fill:Int) (text:List Int):Option (Int×Int×List Int):=
 ((ZaP longs).bind fun l3Codes_=>
 ((ZaP backs).bind fun l3Codes_1=>
 ((Zbc).bind fun l5LongBi=>
 ((Zc6 l5LongBi 3).bind fun l5Base_=>
 ((Zbd).bind fun l5BackBi=>
 ((Zc6 l5BackBi 1).bind fun l5Base_1=>
 ((ZbS.l0 (((list.length:Int)-(0:Int)).toNat+1) (list,longs,backs,0,last,fill,l3Codes_,l3Codes_1,l5Base_,l5Base_1,text)).bind fun (longs2,o3,o4,a1,o5)=>
 ((ZnT longs2 a1 256 o3 o4 o5).bind fun (r15,r16,r17)=>
 (some (r15,r16,r17))))))))))
def ZeI (text:Str):Option (Str):=
 ((Zev 1 1 0 0 []).bind fun (r,r1,r2)=>
 ((Zev 0 2 r r1 r2).bind fun (r3,r4,r5)=>
 ((ZdU r3 r4 r5).bind fun (r6,r7,r8)=>
 ((Zev (text.length:Int) 16 r6 r7 r8).bind fun (r9,r10,r11)=>
 ((Zev (w64 (65535-(text.length:Int))) 16 r9 r10 r11).bind fun (r12,r13,r14)=>
 (need (fits ((ZbF r14).length+text.length)) (some ((ZbF r14)++text))))))))
def ZeJ (text:Str):Option (Str):=
 ((Zev 1 1 0 0 []).bind fun (r,r1,r2)=>
 ((Zev 1 2 r r1 r2).bind fun (r3,r4,r5)=>
 ((ZaL text).bind fun l4Tokens_=>
 ((Zdb).bind fun l5Fixed_=>
 ((Zdc).bind fun l5Fives_=>
 ((ZbS l4Tokens_ l5Fixed_ l5Fives_ r3 r4 r5).bind fun (r6,r7,r8)=>
 ((ZdU r6 r7 r8).bind fun (r9,r10,r11)=>
 (some (ZbF r11)))))))))
def ZbD.l0.step (again:((List (Int×Int×Int))×Int×List Int×List Int×List Int×List Int)→Option (List Int×List Int)):((List (Int×Int×Int))×Int×List Int×List Int×List Int×List Int)→Option (List Int×List Int):=fun (list1,i,longs,backs,long,back)=>
 (bif (decide (i<(list1.length:Int))) then (need (decide (0≤i)&&decide (i<list1.length)) (bif ((list1.getD i.toNat (0,0,0)).2.1==0) then (need (decide (0≤i)&&decide (i<list1.length)) (need (decide (0≤i)&&decide (i<list1.length)) (need (decide (0≤(list1.getD i.toNat (0,0,0)).1)&&decide ((list1.getD i.toNat (0,0,0)).1<longs.length)) (need (decide (0≤(list1.getD i.toNat (0,0,0)).1)&&decide ((list1.getD i.toNat (0,0,0)).1<longs.length)) (again (list1,(w64 (i+1)),(longs.set (((list1.getD i.toNat (0,0,0)).1).toNat) (w64 ((longs.getD (((list1.getD i.toNat (0,0,0)).1).toNat) 0)+1))),backs,long,back)))))) else
 (need (decide (0≤i)&&decide (i<list1.length)) ((Zfm long ((list1.getD i.toNat (0,0,0)).2.1)).bind fun l5Sym_=>
 (need (decide (0≤(w64 (257+l5Sym_)))&&decide ((w64 (257+l5Sym_))<longs.length)) (need (decide (0≤(w64 (257+l5Sym_)))&&decide ((w64 (257+l5Sym_))<longs.length)) (need (decide (0≤i)&&decide (i<list1.length)) ((Zfm back ((list1.getD i.toNat (0,0,0)).2.2)).bind fun l5Sym_1=>
 (need (decide (0≤l5Sym_1)&&decide (l5Sym_1<backs.length)) (need (decide (0≤l5Sym_1)&&decide (l5Sym_1<backs.length)) (again (list1,(w64 (i+1)),(longs.set ((w64 (257+l5Sym_)).toNat) (w64 ((longs.getD ((w64 (257+l5Sym_)).toNat) 0)+1))),(backs.set l5Sym_1.toNat (w64 ((backs.getD l5Sym_1.toNat 0)+1))),long,back)))))))))))) else
 (some (longs,backs)))
def ZbD.l0:=ZaC ZbD.l0.step
theorem ZbD.l0.succ (n:Nat) t:ZbD.l0 (n+1) t=ZbD.l0.step (ZbD.l0 n) t:=rfl
def ZbD (list:List (Int×Int×Int)):Option (List Int×List Int):=
 (need (decide (0≤286)&&fits 286) (need (decide (0≤30)&&fits 30) ((Zbc).bind fun l5LongBi=>
 ((Zc6 l5LongBi 3).bind fun l5Base_=>
 ((Zbd).bind fun l5BackBi=>
 ((Zc6 l5BackBi 1).bind fun l5Base_1=>
 (need (decide (0≤(256:Int))&&decide ((256:Int)<(List.replicate 286 (0:Int)).length)) ((ZbD.l0 (((list.length:Int)-(0:Int)).toNat+1) (list,0,((List.replicate 286 (0:Int)).set 256 1),(List.replicate 30 (0:Int)),l5Base_,l5Base_1)).bind fun (longs1,backs1)=>
 ((ZcT backs1).bind fun l3Used_=>
 (bif (l3Used_==0) then (need (decide (0≤(0:Int))&&decide ((0:Int)<backs1.length)) (some (longs1,(backs1.set 0 1)))) else
 (some (longs1,backs1))))))))))))
def ZcN.l0.step (again:(List Int×Int×Int)→Option (List Int×Int)):(List Int×Int×Int)→Option (List Int×Int):=fun (lens1,least_1,n)=>
 ((bif (decide (n>least_1)) then (need (decide (0≤(w64 (n-1)))&&decide ((w64 (n-1))<lens1.length)) (some ((lens1.getD (w64 (n-1)).toNat 0)==0))) else
 (some false)).bind fun c=>
 (bif c then (again (lens1,least_1,(w64 (n-1)))) else
 (some (lens1,n))))
def ZcN.l0:=ZaC ZcN.l0.step
theorem ZcN.l0.succ (n:Nat) t:ZcN.l0 (n+1) t=ZcN.l0.step (ZcN.l0 n) t:=rfl
def ZcN (lens:List Int) (least_:Int):Option (List Int):=
 ((ZcN.l0 (((lens.length:Int)-least_).toNat+1) (lens,least_,(lens.length:Int))).bind fun (lens2,n1)=>
 (need (decide (0≤n1)&&decide (n1≤lens2.length)) (some (lens2.take n1.toNat))))
def ZdL:Option (List Int):=
 (some [16,17,18,0,8,7,9,6,10,5,11,4,12,3,13,2,14,1,15])
def Zct.l2.step (again:(Int×Int×Int×List Int×List Int×List Int×List Int)→Option (Int×Int×List Int)):(Int×Int×Int×List Int×List Int×List Int×List Int)→Option (Int×Int×List Int):=fun (i2,o12,o13,all4,lens2,codes_2,o14)=>
 (bif (decide (i2<(all4.length:Int))) then (need (decide (0≤i2)&&decide (i2<all4.length)) ((ZnT lens2 codes_2 (all4.getD i2.toNat 0) o12 o13 o14).bind fun (r12,r13,r14)=>
 (again ((w64 (i2+1)),r12,r13,all4,lens2,codes_2,r14)))) else
 (some (o12,o13,o14)))
def Zct.l2:=ZaC Zct.l2.step
theorem Zct.l2.succ (n:Nat) t:Zct.l2 (n+1) t=Zct.l2.step (Zct.l2 n) t:=rfl
def Zct.l1.step (again:(Int×Int×Int×List Int×List Int×List Int×List Int)→Option (Int×Int×List Int×List Int×List Int×List Int)):(Int×Int×Int×List Int×List Int×List Int×List Int)→Option (Int×Int×List Int×List Int×List Int×List Int):=fun (i1,o6,o7,all2,lens,codes_,o8)=>
 (bif (decide (i1<19)) then ((ZdL).bind fun l5Order_=>
 (need (decide (0≤i1)&&decide (i1<l5Order_.length)) (need (decide (0≤(l5Order_.getD i1.toNat 0))&&decide ((l5Order_.getD i1.toNat 0)<lens.length)) ((Zev (lens.getD ((l5Order_.getD i1.toNat 0).toNat) 0) 3 o6 o7 o8).bind fun (r9,r10,r11)=>
 (again ((w64 (i1+1)),r9,r10,all2,lens,codes_,r11)))))) else
 (some (o6,o7,all2,lens,codes_,o8)))
def Zct.l1:=ZaC Zct.l1.step
theorem Zct.l1.succ (n:Nat) t:Zct.l1 (n+1) t=Zct.l1.step (Zct.l1 n) t:=rfl
def Zct.l0.step (again:(List Int×List Int×Int×Int×Int×List Int×List Int×List Int)→Option (List Int×List Int×Int×Int×List Int×List Int×List Int)):(List Int×List Int×Int×Int×Int×List Int×List Int×List Int)→Option (List Int×List Int×Int×Int×List Int×List Int×List Int):=fun (longs1,backs1,i,o,o1,all,counts,o2)=>
 (bif (decide (i<(all.length:Int))) then (need (decide (0≤i)&&decide (i<all.length)) (need (decide (0≤i)&&decide (i<all.length)) (need (decide (0≤(all.getD i.toNat 0))&&decide ((all.getD i.toNat 0)<counts.length)) (need (decide (0≤(all.getD i.toNat 0))&&decide ((all.getD i.toNat 0)<counts.length)) (again (longs1,backs1,(w64 (i+1)),o,o1,all,(counts.set ((all.getD i.toNat 0).toNat) (w64 ((counts.getD ((all.getD i.toNat 0).toNat) 0)+1))),o2)))))) else
 (some (longs1,backs1,o,o1,all,counts,o2)))
def Zct.l0:=ZaC Zct.l0.step
theorem Zct.l0.succ (n:Nat) t:Zct.l0 (n+1) t=Zct.l0.step (Zct.l0 n) t:=rfl
def Zct (longs:List Int) (backs:List Int) (last:Int) (fill:Int) (text:List Int):Option (Int×Int×List Int):=
 (need (fits (([]:List (Int)).length+longs.length)) (need (fits (([]++longs).length+backs.length)) (need (decide (0≤19)&&fits 19) ((Zct.l0 ((((([]++longs)++backs).length:Int)-(0:Int)).toNat+1) (longs,backs,0,last,fill,(([]++longs)++backs),(List.replicate 19 (0:Int)),text)).bind fun (longs2,backs2,o3,o4,all1,counts1,o5)=>
 ((Zc7 counts1 7).bind fun l3Fit_=>
 ((ZaP l3Fit_).bind fun l3Codes_=>
 ((Zev (w64 ((longs2.length:Int)-257)) 5 o3 o4 o5).bind fun (r,r1,r2)=>
 ((Zev (w64 ((backs2.length:Int)-1)) 5 r r1 r2).bind fun (r3,r4,r5)=>
 ((Zev 15 4 r3 r4 r5).bind fun (r6,r7,r8)=>
 ((Zct.l1 ((19-(0:Int)).toNat+1) (0,r6,r7,all1,l3Fit_,l3Codes_,r8)).bind fun (o9,o10,all3,lens1,codes_1,o11)=>
 ((Zct.l2 (((all3.length:Int)-(0:Int)).toNat+1) (0,o9,o10,all3,lens1,codes_1,o11)).bind fun (o15,o16,o17)=>
 (some (o15,o16,o17)))))))))))))
def ZjE (text:Str):Option (Str):=
 ((ZaL text).bind fun l4Tokens_=>
 ((ZbD l4Tokens_).bind fun (r,r1)=>
 ((Zc7 r 15).bind fun l3Fit_=>
 ((ZcN l3Fit_ 257).bind fun l5Last_=>
 ((Zc7 r1 15).bind fun l3Fit_1=>
 ((ZcN l3Fit_1 1).bind fun l5Last_1=>
 ((Zev 1 1 0 0 []).bind fun (r2,r3,r4)=>
 ((Zev 2 2 r2 r3 r4).bind fun (r5,r6,r7)=>
 ((Zct l5Last_ l5Last_1 r5 r6 r7).bind fun (r8,r9,r10)=>
 ((ZbS l4Tokens_ l5Last_ l5Last_1 r8 r9 r10).bind fun (r11,r12,r13)=>
 ((ZdU r11 r12 r13).bind fun (r14,r15,r16)=>
 (some (ZbF r16)))))))))))))
def Zao.l0.step (again:(Str×Int×List Str)→Option (Str)):(Str×Int×List Str)→Option (Str):=fun (out,i,list)=>
 (bif (decide (i<(list.length:Int))) then (need (decide (0≤i)&&decide (i<list.length)) (bif (decide (((list.getD i.toNat []).length:Int)<(out.length:Int))) then (need (decide (0≤i)&&decide (i<list.length)) (again ((list.getD i.toNat []),(w64 (i+1)),list))) else
 (again (out,(w64 (i+1)),list)))) else
 (some out))
def Zao.l0:=ZaC Zao.l0.step
theorem Zao.l0.succ (n:Nat) t:Zao.l0 (n+1) t=Zao.l0.step (Zao.l0 n) t:=rfl
def Zao (text:Str):Option (Str):=
 (bif (decide ((text.length:Int)>300)) then (some []) else
 ((ZeI text).bind fun l5Store_=>
 ((ZeJ text).bind fun l5Known_=>
 ((ZjE text).bind fun l5Own_=>
 ((Zao.l0 (((([l5Known_,l5Own_]:List Str).length:Int)-(0:Int)).toNat+1) (l5Store_,0,[l5Known_,l5Own_])).bind fun out1=>
 (some out1))))))
def ZbY.l0.step (again:(Int×Int×Str×Int×Bool×List Int)→Option (Str×Int×Bool×List Int)):(Int×Int×Str×Int×Bool×List Int)→Option (Str×Int×Bool×List Int):=fun (n1,i,o6,o7,o8,text3)=>
 ((bif (decide (i<n1)) then (some (!o8)) else
 (some false)).bind fun c=>
 (bif c then ((Zfs 8 o6 o7 o8).bind fun (r12,r13,r14,r15)=>
 (need (fits (text3.length+([(IntKind.wrap .u8 r12)]:List (Int)).length)) (again (n1,(w64 (i+1)),r13,r14,r15,(text3++[(IntKind.wrap .u8 r12)]))))) else
 (some (o6,o7,o8,text3))))
def ZbY.l0:=ZaC ZbY.l0.step
theorem ZbY.l0.succ (n:Nat) t:ZbY.l0 (n+1) t=ZbY.l0.step (ZbY.l0 n) t:=rfl
def ZbY (s:Str) (at_:Int) (bad:Bool) (text:List Int):Option (Str×Int×Bool×List Int):=
 ((((Zc4 s at_ bad).bind fun (r,r1,r2,r3)=>
 (bif (!r) then (some (r1,r2,true,text)) else
 (some (r1,r2,r3,text)))):Option (Str×Int×Bool×List Int)).bind fun (o,o1,o2,text1)=>
 ((Zfs 16 o o1 o2).bind fun (r4,r5,r6,r7)=>
 ((((Zfs 16 r5 r6 r7).bind fun (r8,r9,r10,r11)=>
 (bif (r8 != (w64 (65535-r4))) then (some (r4,r9,r10,true,text1)) else
 (bif (decide (r4>300)) then (some (r4,r9,r10,true,text1)) else
 (some (r4,r9,r10,r11,text1))))):Option (Int×Str×Int×Bool×List Int)).bind fun (n,o3,o4,o5,text2)=>
 ((ZbY.l0 ((n-(0:Int)).toNat+1) (n,0,o3,o4,o5,text2)).bind fun (o9,o10,o11,text4)=>
 (some (o9,o10,o11,text4))))))
def Zgn (sym:Int) (backs:List Int) (codes_:List Int) (s:Str) (at_:Int) (bad:Bool) (text:List Int):Option (Str×Int×Bool×List Int):=
 ((Zbc).bind fun l5LongBi=>
 (bif (decide ((w64 (sym-257))≥(l5LongBi.length:Int))) then (some (s,at_,true,text)) else
 ((Zbc).bind fun l5LongBi1=>
 ((Zc6 l5LongBi1 3).bind fun l5Base_=>
 (need (decide (0≤(w64 (sym-257)))&&decide ((w64 (sym-257))<l5Base_.length)) ((Zbc).bind fun l5LongBi2=>
 (need (decide (0≤(w64 (sym-257)))&&decide ((w64 (sym-257))<l5LongBi2.length)) ((Zfs (l5LongBi2.getD ((w64 (sym-257)).toNat) 0) s at_ bad).bind fun (r,r1,r2,r3)=>
 ((ZaX backs codes_ r1 r2 r3).bind fun (r4,r5,r6,r7)=>
 (bif r7 then (some (r5,r6,true,text)) else
 ((Zbd).bind fun l5BackBi=>
 (bif (decide (r4≥(l5BackBi.length:Int))) then (some (r5,r6,true,text)) else
 ((Zbd).bind fun l5BackBi1=>
 ((Zc6 l5BackBi1 1).bind fun l5Base_1=>
 (need (decide (0≤r4)&&decide (r4<l5Base_1.length)) ((Zbd).bind fun l5BackBi2=>
 (need (decide (0≤r4)&&decide (r4<l5BackBi2.length)) ((Zfs (l5BackBi2.getD r4.toNat 0) r5 r6 r7).bind fun (r8,r9,r10,r11)=>
 ((Ze4 0 (w64 ((l5Base_.getD ((w64 (sym-257)).toNat) 0)+r)) (w64 ((l5Base_1.getD r4.toNat 0)+r8)) text).bind fun (r12,r13)=>
 (bif (!r12) then (some (r9,r10,true,r13)) else
 (some (r9,r10,r11,r13))))))))))))))))))))))
def Zcj.l0.step (again:(List Int×List Int×Str×Int×Bool×List Int×List Int×List Int)→Option ((Str×Int×Bool×List Int)⊕(Str×Int×Bool×List Int))):(List Int×List Int×Str×Int×Bool×List Int×List Int×List Int)→Option ((Str×Int×Bool×List Int)⊕(Str×Int×Bool×List Int)):=fun (longs1,backs1,o,o1,o2,text1,a,b)=>
 ((bif (!o2) then (some (decide ((text1.length:Int)≤300))) else
 (some false)).bind fun c=>
 (bif c then ((ZaX longs1 a o o1 o2).bind fun (r,r1,r2,r3)=>
 ((bif r3 then (some true) else
 (some (r==256))).bind fun c1=>
 (bif c1 then ((some (r1,r2,r3,text1)).map Sum.inr) else
 (bif (decide (r<256)) then (need (fits (text1.length+([(IntKind.wrap .u8 r)]:List (Int)).length)) (again (longs1,backs1,r1,r2,r3,(text1++[(IntKind.wrap .u8 r)]),a,b))) else
 ((Zgn r backs1 b r1 r2 r3 text1).bind fun (r4,r5,r6,r7)=>
 (again (longs1,backs1,r4,r5,r6,r7,a,b))))))) else
 (some (.inl (o,o1,o2,text1)))))
def Zcj.l0:=ZaC Zcj.l0.step
theorem Zcj.l0.succ (n:Nat) t:Zcj.l0 (n+1) t=Zcj.l0.step (Zcj.l0 n) t:=rfl
def Zcj (longs:List Int) (backs:List Int) (s:Str) (at_:Int) (bad:Bool) (text:List Int):Option (Str×Int×Bool×List Int):=
 ((ZaP longs).bind fun l3Codes_=>
 ((ZaP backs).bind fun l3Codes_1=>
 ((Zcj.l0 (100000) (longs,backs,s,at_,bad,text,l3Codes_,l3Codes_1)).bind fun r=>match r with
 | .inl (o3,o4,o5,text2)=>(some (o3,o4,true,text2))
 | .inr r=>some r)))
def Zec.l0.step (again:(Int×Int×Int×Str×Int×Bool×List Int)→Option (Str×Int×Bool×List Int)):(Int×Int×Int×Str×Int×Bool×List Int)→Option (Str×Int×Bool×List Int):=fun (last1,n1,i,o3,o4,o5,out2)=>
 ((bif (decide (i<n1)) then (some (!o5)) else
 (some false)).bind fun c1=>
 (bif c1 then (need (fits (out2.length+([last1]:List (Int)).length)) (again (last1,n1,(w64 (i+1)),o3,o4,o5,(out2++[last1])))) else
 (some (o3,o4,o5,out2))))
def Zec.l0:=ZaC Zec.l0.step
theorem Zec.l0.succ (n:Nat) t:Zec.l0 (n+1) t=Zec.l0.step (Zec.l0 n) t:=rfl
def Zec (sym:Int) (s:Str) (at_:Int) (bad:Bool) (out:List Int):Option (Str×Int×Bool×List Int):=
 ((((bif (sym==16) then (some ((out.length:Int)==0)) else
 (some false)).bind fun c=>
 (bif c then (some (0,0,s,at_,true,out)) else
 (bif (sym==16) then (need (decide (0≤(w64 ((out.length:Int)-1)))&&decide ((w64 ((out.length:Int)-1))<out.length)) ((Zfs 2 s at_ bad).bind fun (r,r1,r2,r3)=>
 (some ((out.getD ((w64 ((out.length:Int)-1)).toNat) 0),(w64 (3+r)),r1,r2,r3,out)))) else
 (bif (sym==17) then ((Zfs 3 s at_ bad).bind fun (r4,r5,r6,r7)=>
 (some (0,(w64 (3+r4)),r5,r6,r7,out))) else
 (bif (sym==18) then ((Zfs 7 s at_ bad).bind fun (r8,r9,r10,r11)=>
 (some (0,(w64 (11+r8)),r9,r10,r11,out))) else
 (some (sym,1,s,at_,bad,out))))))):Option (Int×Int×Str×Int×Bool×List Int)).bind fun (last,n,o,o1,o2,out1)=>
 ((Zec.l0 ((n-(0:Int)).toNat+1) (last,n,0,o,o1,o2,out1)).bind fun (o6,o7,o8,out3)=>
 (some (o6,o7,o8,out3))))
def Zda.l1.step (again:(Int×Int×Str×Int×Bool×List Int×List Int×List Int)→Option (Int×Int×Str×Int×Bool×List Int)):(Int×Int×Str×Int×Bool×List Int×List Int×List Int)→Option (Int×Int×Str×Int×Bool×List Int):=fun (long2,back2,o6,o7,o8,lens2,codes_,all)=>
 ((bif (decide ((all.length:Int)<(w64 (long2+back2)))) then (some (!o8)) else
 (some false)).bind fun c1=>
 (bif c1 then ((ZaX lens2 codes_ o6 o7 o8).bind fun (r16,r17,r18,r19)=>
 ((Zec r16 r17 r18 r19 all).bind fun (r20,r21,r22,r23)=>
 (again (long2,back2,r20,r21,r22,lens2,codes_,r23)))) else
 (some (long2,back2,o6,o7,o8,all))))
def Zda.l1:=ZaC Zda.l1.step
theorem Zda.l1.succ (n:Nat) t:Zda.l1 (n+1) t=Zda.l1.step (Zda.l1 n) t:=rfl
def Zda.l0.step (again:(Int×Int×Int×Int×Str×Int×Bool×List Int)→Option (Int×Int×Str×Int×Bool×List Int)):(Int×Int×Int×Int×Str×Int×Bool×List Int)→Option (Int×Int×Str×Int×Bool×List Int):=fun (long,back,n,i,o,o1,o2,lens)=>
 (bif (decide (i<n)) then ((ZdL).bind fun l5Order_=>
 (need (decide (0≤i)&&decide (i<l5Order_.length)) ((Zfs 3 o o1 o2).bind fun (r12,r13,r14,r15)=>
 (need (decide (0≤(l5Order_.getD i.toNat 0))&&decide ((l5Order_.getD i.toNat 0)<lens.length)) (again (long,back,n,(w64 (i+1)),r13,r14,r15,(lens.set ((l5Order_.getD i.toNat 0).toNat) r12))))))) else
 (some (long,back,o,o1,o2,lens)))
def Zda.l0:=ZaC Zda.l0.step
theorem Zda.l0.succ (n:Nat) t:Zda.l0 (n+1) t=Zda.l0.step (Zda.l0 n) t:=rfl
def Zda (s:Str) (at_:Int) (bad:Bool):Option (List Int×List Int×Str×Int×Bool):=
 ((Zfs 5 s at_ bad).bind fun (r,r1,r2,r3)=>
 ((Zfs 5 r1 r2 r3).bind fun (r4,r5,r6,r7)=>
 ((Zfs 4 r5 r6 r7).bind fun (r8,r9,r10,r11)=>
 (need (decide (0≤19)&&fits 19) ((Zda.l0 (((w64 (4+r8))-(0:Int)).toNat+1) ((w64 (257+r)),(w64 (1+r4)),(w64 (4+r8)),0,r9,r10,r11,(List.replicate 19 (0:Int)))).bind fun (long1,back1,o3,o4,o5,lens1)=>
 (((ZaU lens1).bind fun LensOk=>
 (bif (!LensOk) then (some true) else
 (bif (decide (long1>286)) then (some true) else
 (some (decide (back1>30)))))).bind fun c=>
 (bif c then (some ([],[],o3,o4,true)) else
 ((ZaP lens1).bind fun l3Codes_=>
 ((Zda.l1 (((w64 (long1+back1))-(([]:List Int).length:Int)).toNat+1) (long1,back1,o3,o4,o5,lens1,l3Codes_,[])).bind fun (long3,back3,o9,o10,o11,all1)=>
 ((bif o11 then (some true) else
 (bif ((all1.length:Int) != (w64 (long3+back3))) then (some true) else
 (need (decide (0≤long3)&&decide (long3≤all1.length)) ((ZaU ((all1.drop 0).take long3.toNat)).bind fun LensOk1=>
 (bif (!LensOk1) then (some true) else
 (need (decide (0≤long3)&&decide (long3≤all1.length)) ((ZaU ((all1.drop long3.toNat).take (all1.length-long3.toNat))).bind fun LensOk2=>
 (some (!LensOk2))))))))).bind fun c2=>
 (bif c2 then (some ([],[],o9,o10,true)) else
 (need (decide (0≤long3)&&decide (long3≤all1.length)) (need (decide (0≤long3)&&decide (long3≤all1.length)) (some (((all1.drop 0).take long3.toNat),((all1.drop long3.toNat).take (all1.length-long3.toNat)),o9,o10,o11)))))))))))))))
def Zjr (s:Str) (at_:Int) (bad:Bool) (text:List Int):Option (Bool×Str×Int×Bool×List Int):=
 ((Zkn s at_ bad).bind fun (r,r1,r2,r3)=>
 ((Zfs 2 r1 r2 r3).bind fun (r4,r5,r6,r7)=>
 (bif (r4==0) then ((ZbY r5 r6 r7 text).bind fun (r8,r9,r10,r11)=>
 (some ((r==1),r8,r9,r10,r11))) else
 (bif (r4==1) then ((Zdb).bind fun l5Fixed_=>
 ((Zdc).bind fun l5Fives_=>
 ((Zcj l5Fixed_ l5Fives_ r5 r6 r7 text).bind fun (r12,r13,r14,r15)=>
 (some ((r==1),r12,r13,r14,r15))))) else
 (bif (r4==2) then ((Zda r5 r6 r7).bind fun (r16,r17,r18,r19,r20)=>
 (bif (!r20) then ((Zcj r16 r17 r18 r19 r20 text).bind fun (r21,r22,r23,r24)=>
 (some ((r==1),r21,r22,r23,r24))) else
 (some ((r==1),r18,r19,r20,text)))) else
 (some ((r==1),r5,r6,true,text)))))))
def ZeR.l0.step (again:(Bool×Str×Int×Bool×List Int)→Option (Str×Int×Bool×List Int)):(Bool×Str×Int×Bool×List Int)→Option (Str×Int×Bool×List Int):=fun (last,o,o1,o2,out)=>
 ((bif (!last) then (some (!o2)) else
 (some false)).bind fun c=>
 (bif c then ((Zjr o o1 o2 out).bind fun (r,r1,r2,r3,r4)=>
 (again (r,r1,r2,r3,r4))) else
 (some (o,o1,o2,out))))
def ZeR.l0:=ZaC ZeR.l0.step
theorem ZeR.l0.succ (n:Nat) t:ZeR.l0 (n+1) t=ZeR.l0.step (ZeR.l0 n) t:=rfl
def ZeR (text:Str):Option (Str×Int×Bool):=
 ((ZeR.l0 (100000) (false,text,0,false,[])).bind fun (o3,o4,o5,out1)=>
 ((Zc4 o3 o4 o5).bind fun (r5,r6,r7,r8)=>
 ((bif r8 then (some true) else
 (bif (!r5) then (some true) else
 (some (decide ((out1.length:Int)>300))))).bind fun c1=>
 (bif c1 then (some ([],0,false)) else
 (some ((ZbF out1),(w64 (r7.tdiv 8)),true))))))
def Zbx (text:Str):Option (Str×Int×Bool):=
 (bif (decide ((text.length:Int)>700)) then (some ([],0,false)) else
 ((ZeR text).bind fun (r,r1,r2)=>
 (some (r,r1,r2))))
def Zg2 (year:Int) (month:Int):Option (Int):=
 (((bif (month==4) then (some (year,month,(month==4))) else
 (bif (month==6) then (some (year,month,(month==6))) else
 (bif (month==9) then (some (year,month,(month==9))) else
 (some (year,month,(month==11)))))):Option (Int×Int×Bool)).bind fun (year1,t,t1)=>
 (bif t1 then (some 30) else
 (bif (t==2) then ((bif ((year1.tmod 4)==0) then (bif ((year1.tmod 100) != 0) then (some true) else
 (some ((year1.tmod 400)==0))) else
 (some false)).bind fun c=>
 (bif c then (some 29) else
 (some 28))) else
 (some 31))))
def Zb6 (y:Int) (mo:Int) (d:Int) (h:Int) (mi:Int) (sec:Int):Option (Bool):=
 (((ZhH y 1980 2107).bind fun l1In_=>
 (bif l1In_ then ((ZhH mo 1 12).bind fun l1In_1=>
 (bif l1In_1 then ((Zg2 y mo).bind fun l6Days_=>
 ((ZhH d 1 l6Days_).bind fun l1In_2=>
 (some l1In_2))) else
 (some false))) else
 (some false))).bind fun day=>
 ((bif day then ((ZhH h 0 23).bind fun l1In_3=>
 (bif l1In_3 then ((ZhH mi 0 59).bind fun l1In_4=>
 (bif l1In_4 then ((ZhH sec 0 58).bind fun l1In_5=>
 (bif l1In_5 then (some ((sec.tmod 2)==0)) else
 (some false))) else
 (some false))) else
 (some false))) else
 (some false)).bind fun c=>
 (some c)))
def ZjC (y:Int) (mo:Int) (d:Int) (h:Int) (mi:Int) (sec:Int):Option (Int):=
 (some (w64 ((w64 ((w64 ((w64 ((w64 ((w64 ((w64 ((w64 ((w64 ((w64 ((w64 (y-1980))*16))+mo))*32))+d))*32))+h))*64))+mi))*32))+(w64 (sec.tdiv 2)))))
def ZjD (n:Int):Option (Int×Int×Int×Int×Int×Int):=
 (some ((w64 ((w64 ((w64 ((w64 ((w64 ((w64 (n.tdiv 32)).tdiv 64)).tdiv 32)).tdiv 32)).tdiv 16))+1980)),((w64 ((w64 ((w64 ((w64 (n.tdiv 32)).tdiv 64)).tdiv 32)).tdiv 32)).tmod 16),((w64 ((w64 ((w64 (n.tdiv 32)).tdiv 64)).tdiv 32)).tmod 32),((w64 ((w64 (n.tdiv 32)).tdiv 64)).tmod 32),((w64 (n.tdiv 32)).tmod 64),(w64 (2*(n.tmod 32)))))
def ZaM (name:Str) (y:Int) (mo:Int) (d:Int) (h:Int) (mi:Int) (sec:Int) (text:Str):Option (Bool):=
 (((Zaq name).bind fun NameOk=>
 (bif NameOk then ((Zb6 y mo d h mi sec).bind fun StampOk=>
 (bif StampOk then (some (decide ((text.length:Int)≤300))) else
 (some false))) else
 (some false))).bind fun c=>
 (some c))
def Zaw.l0.step (again:(Int×Int×Int×List Int)→Option (List Int)):(Int×Int×Int×List Int)→Option (List Int):=fun (n1,many1,i,out)=>
 (bif (decide (i<many1)) then (need (fits (out.length+([(IntKind.wrap .u8 (n1.tmod 256))]:List (Int)).length)) (again ((w64 (n1.tdiv 256)),many1,(w64 (i+1)),(out++[(IntKind.wrap .u8 (n1.tmod 256))])))) else
 (some out))
def Zaw.l0:=ZaC Zaw.l0.step
theorem Zaw.l0.succ (n:Nat) t:Zaw.l0 (n+1) t=Zaw.l0.step (Zaw.l0 n) t:=rfl
def Zaw (n:Int) (many:Int):Option (Str):=
 ((Zaw.l0 ((many-(0:Int)).toNat+1) (n,many,0,[])).bind fun out1=>
 (some (ZbF out1)))
def Zcp.l0.step (again:(Str×Int×Int×Int)→Option (Int)):(Str×Int×Int×Int)→Option (Int):=fun (s1,at_1,n,i)=>
 (bif (decide (i≥0)) then (need (decide (0≤(w64 (at_1+i)))&&decide ((w64 (at_1+i))<s1.length)) (again (s1,at_1,(w64 ((w64 (256*n))+(w64 ((s1.getD (w64 (at_1+i)).toNat 0).toNat:Int)))),(w64 (i-1))))) else
 (some n))
def Zcp.l0:=ZaC Zcp.l0.step
theorem Zcp.l0.succ (n:Nat) t:Zcp.l0 (n+1) t=Zcp.l0.step (Zcp.l0 n) t:=rfl
def Zcp (s:Str) (at_:Int) (many:Int):Option (Int):=
 ((bif (decide (at_<0)) then (some true) else
 (some (decide ((w64 (at_+many))>(s.length:Int))))).bind fun c=>
 (bif c then (some (-1)) else
 ((Zcp.l0 (((w64 (many-1))-0).toNat+2) (s,at_,0,(w64 (many-1)))).bind fun n1=>
 (some n1))))
def ZhG (text:Str):Option (Int×Str):=
 ((Zao text).bind fun FlatePut=>
 (bif (decide ((FlatePut.length:Int)<(text.length:Int))) then (some (8,FlatePut)) else
 (some (0,text))))
def ZcY (name:Str) (y:Int) (mo:Int) (d:Int) (h:Int) (mi:Int) (sec:Int) (text:Str):Option (Str):=
 ((ZhG text).bind fun (r,r1)=>
 ((Zaw 20 2).bind fun l6Bytes_=>
 ((Zaw 0 2).bind fun l6Bytes_1=>
 (need (fits (l6Bytes_.length+l6Bytes_1.length)) ((Zaw r 2).bind fun l6Bytes_2=>
 (need (fits ((l6Bytes_++l6Bytes_1).length+l6Bytes_2.length)) ((ZjC y mo d h mi sec).bind fun l6Put_=>
 ((Zaw l6Put_ 4).bind fun l6Bytes_3=>
 (need (fits (((l6Bytes_++l6Bytes_1)++l6Bytes_2).length+l6Bytes_3.length)) ((ZdK text).bind fun Crc=>
 ((Zaw Crc 4).bind fun l6Bytes_4=>
 (need (fits ((((l6Bytes_++l6Bytes_1)++l6Bytes_2)++l6Bytes_3).length+l6Bytes_4.length)) ((Zaw (r1.length:Int) 4).bind fun l6Bytes_5=>
 (need (fits (((((l6Bytes_++l6Bytes_1)++l6Bytes_2)++l6Bytes_3)++l6Bytes_4).length+l6Bytes_5.length)) ((Zaw (text.length:Int) 4).bind fun l6Bytes_6=>
 (need (fits ((((((l6Bytes_++l6Bytes_1)++l6Bytes_2)++l6Bytes_3)++l6Bytes_4)++l6Bytes_5).length+l6Bytes_6.length)) ((Zaw (name.length:Int) 2).bind fun l6Bytes_7=>
 (need (fits (((((((l6Bytes_++l6Bytes_1)++l6Bytes_2)++l6Bytes_3)++l6Bytes_4)++l6Bytes_5)++l6Bytes_6).length+l6Bytes_7.length)) ((Zaw 0 2).bind fun l6Bytes_8=>
 (need (fits ((((((((l6Bytes_++l6Bytes_1)++l6Bytes_2)++l6Bytes_3)++l6Bytes_4)++l6Bytes_5)++l6Bytes_6)++l6Bytes_7).length+l6Bytes_8.length)) (some ((((((((l6Bytes_++l6Bytes_1)++l6Bytes_2)++l6Bytes_3)++l6Bytes_4)++l6Bytes_5)++l6Bytes_6)++l6Bytes_7)++l6Bytes_8))))))))))))))))))))))
def ZeH (name:Str) (y:Int) (mo:Int) (d:Int) (h:Int) (mi:Int) (sec:Int) (text:Str):Option (Str):=
 ((ZhG text).bind fun (r,r1)=>
 ((Zaw 67324752 4).bind fun l6Bytes_=>
 ((ZcY name y mo d h mi sec text).bind fun l6Fields_=>
 (need (fits (l6Bytes_.length+l6Fields_.length)) (need (fits ((l6Bytes_++l6Fields_).length+name.length)) (need (fits (((l6Bytes_++l6Fields_)++name).length+r1.length)) (some (((l6Bytes_++l6Fields_)++name)++r1))))))))
def Zgs (how:Int) (packed:Str):Option (Str×Bool):=
 (bif (how==0) then (some (packed,true)) else
 ((Zbx packed).bind fun (r,r1,r2)=>
 ((bif r2 then (bif (how==8) then (some (r,(r1==(packed.length:Int)))) else
 (some (r,false))) else
 (some (r,false))).bind fun (c,c1)=>
 (some (c,c1)))))
def ZeV (text:Str):Option (Str×Int×Int×Int×Int×Int×Int×Str×Int×Bool):=
 ((Zcp text 26 2).bind fun l6Num_=>
 ((Zcp text 18 4).bind fun l6Num_1=>
 (((Zcp text 0 4).bind fun l6Num_2=>
 (bif (l6Num_2==67324752) then ((Zcp text 4 2).bind fun l6Num_3=>
 (bif (l6Num_3==20) then ((Zcp text 6 2).bind fun l6Num_4=>
 (bif (l6Num_4==0) then ((Zcp text 28 2).bind fun l6Num_5=>
 (some (l6Num_5==0))) else
 (some false))) else
 (some false))) else
 (some false))).bind fun head=>
 ((bif (!head) then (some true) else
 (bif (decide (l6Num_<0)) then (some true) else
 (bif (decide (l6Num_1<0)) then (some true) else
 (some (decide ((w64 ((w64 (30+l6Num_))+l6Num_1))>(text.length:Int))))))).bind fun c=>
 (bif c then (some ([],0,0,0,0,0,0,[],0,false)) else
 (need (decide (0≤(w64 (30+l6Num_)))&&decide ((w64 (30+l6Num_))≤text.length)) (need (decide (0≤(30:Int))&&decide ((30:Int)≤(w64 (30+l6Num_)))) ((Zcp text 10 4).bind fun l6Num_6=>
 ((ZjD l6Num_6).bind fun (r,r1,r2,r3,r4,r5)=>
 ((Zcp text 8 2).bind fun l6Num_7=>
 (need (decide (0≤(w64 ((w64 (30+l6Num_))+l6Num_1)))&&decide ((w64 ((w64 (30+l6Num_))+l6Num_1))≤text.length)) (need (decide (0≤(w64 (30+l6Num_)))&&decide ((w64 (30+l6Num_))≤(w64 ((w64 (30+l6Num_))+l6Num_1)))) ((Zgs l6Num_7 ((text.take (w64 ((w64 (30+l6Num_))+l6Num_1)).toNat).drop (w64 (30+l6Num_)).toNat)).bind fun (r6,r7)=>
 ((bif r7 then ((Zcp text 14 4).bind fun l6Num_8=>
 ((ZdK r6).bind fun Crc=>
 (bif (l6Num_8==Crc) then ((Zcp text 22 4).bind fun l6Num_9=>
 (some (l6Num_9==(r6.length:Int)))) else
 (some false)))) else
 (some false)).bind fun ok=>
 (bif ok then ((ZaM ((text.take (w64 (30+l6Num_)).toNat).drop 30) r r1 r2 r3 r4 r5 r6).bind fun EntryOk=>
 (some (((text.take (w64 (30+l6Num_)).toNat).drop 30),r,r1,r2,r3,r4,r5,r6,(w64 ((w64 (30+l6Num_))+l6Num_1)),EntryOk))) else
 (some (((text.take (w64 (30+l6Num_)).toNat).drop 30),r,r1,r2,r3,r4,r5,r6,(w64 ((w64 (30+l6Num_))+l6Num_1)),false)))))))))))))))))
def Zgd.l0.step (again:((List (Str×Int×Int×Int×Int×Int×Int×Str))×Str×Int)→Option ((Unit)⊕(Int))):((List (Str×Int×Int×Int×Int×Int×Int×Str))×Str×Int)→Option ((Unit)⊕(Int)):=fun (list1,name1,i)=>
 (bif (decide (i<(list1.length:Int))) then (need (decide (0≤i)&&decide (i<list1.length)) (bif ((list1.getD i.toNat ([],0,0,0,0,0,0,[])).1==name1) then ((some i).map Sum.inr) else
 (again (list1,name1,(w64 (i+1)))))) else
 (some (.inl ())))
def Zgd.l0:=ZaC Zgd.l0.step
theorem Zgd.l0.succ (n:Nat) t:Zgd.l0 (n+1) t=Zgd.l0.step (Zgd.l0 n) t:=rfl
def Zgd (list:List (Str×Int×Int×Int×Int×Int×Int×Str)) (name:Str):Option (Int):=
 ((Zgd.l0 (((list.length:Int)-(0:Int)).toNat+1) (list,name,0)).bind fun r=>match r with
 | .inl _=>(some (-1))
 | .inr r=>some r)
def ZaF.l0.step (again:((List (Str×Int×Int×Int×Int×Int×Int×Str))×Int×Int)→Option (((List (Str×Int×Int×Int×Int×Int×Int×Str))×Int)⊕((List (Str×Int×Int×Int×Int×Int×Int×Str))⊕(Bool)))):((List (Str×Int×Int×Int×Int×Int×Int×Str))×Int×Int)→Option (((List (Str×Int×Int×Int×Int×Int×Int×Str))×Int)⊕((List (Str×Int×Int×Int×Int×Int×Int×Str))⊕(Bool))):=fun (list2,i1,k)=>
 (bif (decide (k<(list2.length:Int))) then (need (decide (0≤i1)&&decide (i1<list2.length)) (need (decide (0≤k)&&decide (k<list2.length)) ((ZdA ((list2.getD i1.toNat ([],0,0,0,0,0,0,[])).1) ((list2.getD k.toNat ([],0,0,0,0,0,0,[])).1)).bind fun l7Under_=>
 (bif l7Under_ then (((some false).map Sum.inr).map Sum.inr) else
 (again (list2,i1,(w64 (k+1)))))))) else
 (some (.inl (list2,i1))))
def ZaF.l0:=ZaC ZaF.l0.step
theorem ZaF.l0.succ (n:Nat) t:ZaF.l0 (n+1) t=ZaF.l0.step (ZaF.l0 n) t:=rfl
def ZaF.l1.step (again:((List (Str×Int×Int×Int×Int×Int×Int×Str))×Int)→Option ((List (Str×Int×Int×Int×Int×Int×Int×Str))⊕(Bool))):((List (Str×Int×Int×Int×Int×Int×Int×Str))×Int)→Option ((List (Str×Int×Int×Int×Int×Int×Int×Str))⊕(Bool)):=fun (list1,i)=>
 (bif (decide (i<(list1.length:Int))) then ((need (decide (0≤i)&&decide (i<list1.length)) ((ZaM ((list1.getD i.toNat ([],0,0,0,0,0,0,[])).1) ((list1.getD i.toNat ([],0,0,0,0,0,0,[])).2.1) ((list1.getD i.toNat ([],0,0,0,0,0,0,[])).2.2.1) ((list1.getD i.toNat ([],0,0,0,0,0,0,[])).2.2.2.1) ((list1.getD i.toNat ([],0,0,0,0,0,0,[])).2.2.2.2.1) ((list1.getD i.toNat ([],0,0,0,0,0,0,[])).2.2.2.2.2.1) ((list1.getD i.toNat ([],0,0,0,0,0,0,[])).2.2.2.2.2.2.1) ((list1.getD i.toNat ([],0,0,0,0,0,0,[])).2.2.2.2.2.2.2)).bind fun EntryOk=>
 (bif (!EntryOk) then (some true) else
 (need (decide (0≤i)&&decide (i<list1.length)) ((Zgd list1 ((list1.getD i.toNat ([],0,0,0,0,0,0,[])).1)).bind fun l7At_=>
 (some (l7At_ != i))))))).bind fun c=>
 (bif c then ((some false).map Sum.inr) else
 ((ZaF.l0 (((list1.length:Int)-(0:Int)).toNat+1) (list1,i,0)).bind fun r=>match r with
 | .inl (list3,i2)=>(again (list3,(w64 (i2+1))))
 | .inr r=>some r))) else
 (some (.inl list1)))
def ZaF.l1:=ZaC ZaF.l1.step
theorem ZaF.l1.succ (n:Nat) t:ZaF.l1 (n+1) t=ZaF.l1.step (ZaF.l1 n) t:=rfl
def ZaF (list:List (Str×Int×Int×Int×Int×Int×Int×Str)):Option (Bool):=
 ((ZaF.l1 (((list.length:Int)-(0:Int)).toNat+1) (list,0)).bind fun r=>match r with
 | .inl list4=>(some (decide ((list4.length:Int)≤6)))
 | .inr r=>some r)
def Zc5 (name:Str) (y:Int) (mo:Int) (d:Int) (h:Int) (mi:Int) (sec:Int) (text:Str) (at_:Int):Option (Str):=
 ((Zaw 33639248 4).bind fun l6Bytes_=>
 ((Zaw 20 2).bind fun l6Bytes_1=>
 (need (fits (l6Bytes_.length+l6Bytes_1.length)) ((ZcY name y mo d h mi sec text).bind fun l6Fields_=>
 (need (fits ((l6Bytes_++l6Bytes_1).length+l6Fields_.length)) ((Zaw 0 2).bind fun l6Bytes_2=>
 (need (fits (((l6Bytes_++l6Bytes_1)++l6Fields_).length+l6Bytes_2.length)) ((Zaw 0 2).bind fun l6Bytes_3=>
 (need (fits ((((l6Bytes_++l6Bytes_1)++l6Fields_)++l6Bytes_2).length+l6Bytes_3.length)) ((Zaw 0 2).bind fun l6Bytes_4=>
 (need (fits (((((l6Bytes_++l6Bytes_1)++l6Fields_)++l6Bytes_2)++l6Bytes_3).length+l6Bytes_4.length)) ((Zaw 0 4).bind fun l6Bytes_5=>
 (need (fits ((((((l6Bytes_++l6Bytes_1)++l6Fields_)++l6Bytes_2)++l6Bytes_3)++l6Bytes_4).length+l6Bytes_5.length)) ((Zaw at_ 4).bind fun l6Bytes_6=>
 (need (fits (((((((l6Bytes_++l6Bytes_1)++l6Fields_)++l6Bytes_2)++l6Bytes_3)++l6Bytes_4)++l6Bytes_5).length+l6Bytes_6.length)) (need (fits ((((((((l6Bytes_++l6Bytes_1)++l6Fields_)++l6Bytes_2)++l6Bytes_3)++l6Bytes_4)++l6Bytes_5)++l6Bytes_6).length+name.length)) (some ((((((((l6Bytes_++l6Bytes_1)++l6Fields_)++l6Bytes_2)++l6Bytes_3)++l6Bytes_4)++l6Bytes_5)++l6Bytes_6)++name))))))))))))))))))
def ZhF (many:Int) (long:Int) (at_:Int):Option (Str):=
 ((Zaw 101010256 4).bind fun l6Bytes_=>
 ((Zaw 0 2).bind fun l6Bytes_1=>
 (need (fits (l6Bytes_.length+l6Bytes_1.length)) ((Zaw 0 2).bind fun l6Bytes_2=>
 (need (fits ((l6Bytes_++l6Bytes_1).length+l6Bytes_2.length)) ((Zaw many 2).bind fun l6Bytes_3=>
 (need (fits (((l6Bytes_++l6Bytes_1)++l6Bytes_2).length+l6Bytes_3.length)) ((Zaw many 2).bind fun l6Bytes_4=>
 (need (fits ((((l6Bytes_++l6Bytes_1)++l6Bytes_2)++l6Bytes_3).length+l6Bytes_4.length)) ((Zaw long 4).bind fun l6Bytes_5=>
 (need (fits (((((l6Bytes_++l6Bytes_1)++l6Bytes_2)++l6Bytes_3)++l6Bytes_4).length+l6Bytes_5.length)) ((Zaw at_ 4).bind fun l6Bytes_6=>
 (need (fits ((((((l6Bytes_++l6Bytes_1)++l6Bytes_2)++l6Bytes_3)++l6Bytes_4)++l6Bytes_5).length+l6Bytes_6.length)) ((Zaw 0 2).bind fun l6Bytes_7=>
 (need (fits (((((((l6Bytes_++l6Bytes_1)++l6Bytes_2)++l6Bytes_3)++l6Bytes_4)++l6Bytes_5)++l6Bytes_6).length+l6Bytes_7.length)) (some (((((((l6Bytes_++l6Bytes_1)++l6Bytes_2)++l6Bytes_3)++l6Bytes_4)++l6Bytes_5)++l6Bytes_6)++l6Bytes_7)))))))))))))))))
def ZcL.l0.step (again:((List (Str×Int×Int×Int×Int×Int×Int×Str))×Str×Str×Int)→Option ((List (Str×Int×Int×Int×Int×Int×Int×Str))×Str×Str)):((List (Str×Int×Int×Int×Int×Int×Int×Str))×Str×Str×Int)→Option ((List (Str×Int×Int×Int×Int×Int×Int×Str))×Str×Str):=fun (list1,out,heads,i)=>
 (bif (decide (i<(list1.length:Int))) then (need (decide (0≤i)&&decide (i<list1.length)) ((Zc5 ((list1.getD i.toNat ([],0,0,0,0,0,0,[])).1) ((list1.getD i.toNat ([],0,0,0,0,0,0,[])).2.1) ((list1.getD i.toNat ([],0,0,0,0,0,0,[])).2.2.1) ((list1.getD i.toNat ([],0,0,0,0,0,0,[])).2.2.2.1) ((list1.getD i.toNat ([],0,0,0,0,0,0,[])).2.2.2.2.1) ((list1.getD i.toNat ([],0,0,0,0,0,0,[])).2.2.2.2.2.1) ((list1.getD i.toNat ([],0,0,0,0,0,0,[])).2.2.2.2.2.2.1) ((list1.getD i.toNat ([],0,0,0,0,0,0,[])).2.2.2.2.2.2.2) (out.length:Int)).bind fun l7Centra=>
 (need (fits (heads.length+l7Centra.length)) (need (decide (0≤i)&&decide (i<list1.length)) ((ZeH ((list1.getD i.toNat ([],0,0,0,0,0,0,[])).1) ((list1.getD i.toNat ([],0,0,0,0,0,0,[])).2.1) ((list1.getD i.toNat ([],0,0,0,0,0,0,[])).2.2.1) ((list1.getD i.toNat ([],0,0,0,0,0,0,[])).2.2.2.1) ((list1.getD i.toNat ([],0,0,0,0,0,0,[])).2.2.2.2.1) ((list1.getD i.toNat ([],0,0,0,0,0,0,[])).2.2.2.2.2.1) ((list1.getD i.toNat ([],0,0,0,0,0,0,[])).2.2.2.2.2.2.1) ((list1.getD i.toNat ([],0,0,0,0,0,0,[])).2.2.2.2.2.2.2)).bind fun l6Local_=>
 (need (fits (out.length+l6Local_.length)) (again (list1,(out++l6Local_),(heads++l7Centra),(w64 (i+1)))))))))) else
 (some (list1,out,heads)))
def ZcL.l0:=ZaC ZcL.l0.step
theorem ZcL.l0.succ (n:Nat) t:ZcL.l0 (n+1) t=ZcL.l0.step (ZcL.l0 n) t:=rfl
def ZcL (list:List (Str×Int×Int×Int×Int×Int×Int×Str)):Option (Str):=
 ((ZcL.l0 (((list.length:Int)-(0:Int)).toNat+1) (list,[],[],0)).bind fun (list2,out1,heads1)=>
 (need (fits (out1.length+heads1.length)) ((ZhF (list2.length:Int) (heads1.length:Int) (out1.length:Int)).bind fun l7End_=>
 (need (fits ((out1++heads1).length+l7End_.length)) (some ((out1++heads1)++l7End_))))))
def Zfl.l0.step (again:(Str×Int×Int×Int×List (Str×Int×Int×Int×Int×Int×Int×Str))→Option ((Int×List (Str×Int×Int×Int×Int×Int×Int×Str))⊕(Int×Bool×List (Str×Int×Int×Int×Int×Int×Int×Str)))):(Str×Int×Int×Int×List (Str×Int×Int×Int×Int×Int×Int×Str))→Option ((Int×List (Str×Int×Int×Int×Int×Int×Int×Str))⊕(Int×Bool×List (Str×Int×Int×Int×Int×Int×Int×Str))):=fun (text1,many1,at_,i,out)=>
 (bif (decide (i<many1)) then (need (decide (0≤at_)&&decide (at_≤text1.length)) ((ZeV (text1.drop at_.toNat)).bind fun (r,r1,r2,r3,r4,r5,r6,r7,r8,r9)=>
 (bif (!r9) then ((some (at_,false,out)).map Sum.inr) else
 (need (fits (out.length+([(r,r1,r2,r3,r4,r5,r6,r7)]:List (Str×Int×Int×Int×Int×Int×Int×Str)).length)) (again (text1,many1,(w64 (at_+r8)),(w64 (i+1)),(out++[(r,r1,r2,r3,r4,r5,r6,r7)]))))))) else
 (some (.inl (at_,out))))
def Zfl.l0:=ZaC Zfl.l0.step
theorem Zfl.l0.succ (n:Nat) t:Zfl.l0 (n+1) t=Zfl.l0.step (Zfl.l0 n) t:=rfl
def Zfl (text:Str) (many:Int):Option (Int×Bool×List (Str×Int×Int×Int×Int×Int×Int×Str)):=
 ((Zfl.l0 ((many-(0:Int)).toNat+1) (text,many,0,0,[])).bind fun r=>match r with
 | .inl (at_1,out1)=>(some (at_1,true,out1))
 | .inr r=>some r)
def Zgr (text:Str) (head:Int) (at_:Int):Option (Int×Bool):=
 ((Zcp text (w64 (head+28)) 2).bind fun l6Num_=>
 ((bif (decide (l6Num_<0)) then (some true) else
 (bif (decide ((w64 (head+(w64 (46+l6Num_))))>(text.length:Int))) then (some true) else
 (some (decide ((w64 ((w64 (at_+30))+l6Num_))>(text.length:Int)))))).bind fun c=>
 (bif c then (some (0,false)) else
 ((need (decide (0≤(w64 (head+32)))&&decide ((w64 (head+32))≤text.length)) (need (decide (0≤(w64 (head+6)))&&decide ((w64 (head+6))≤(w64 (head+32)))) (need (decide (0≤(w64 (at_+30)))&&decide ((w64 (at_+30))≤text.length)) (need (decide (0≤(w64 (at_+4)))&&decide ((w64 (at_+4))≤(w64 (at_+30)))) (bif (((text.take (w64 (head+32)).toNat).drop (w64 (head+6)).toNat)==((text.take (w64 (at_+30)).toNat).drop (w64 (at_+4)).toNat)) then (need (decide (0≤(w64 (head+(w64 (46+l6Num_)))))&&decide ((w64 (head+(w64 (46+l6Num_))))≤text.length)) (need (decide (0≤(w64 (head+46)))&&decide ((w64 (head+46))≤(w64 (head+(w64 (46+l6Num_)))))) (need (decide (0≤(w64 ((w64 (at_+30))+l6Num_)))&&decide ((w64 ((w64 (at_+30))+l6Num_))≤text.length)) (need (decide (0≤(w64 (at_+30)))&&decide ((w64 (at_+30))≤(w64 ((w64 (at_+30))+l6Num_)))) (some (((text.take (w64 (head+(w64 (46+l6Num_)))).toNat).drop (w64 (head+46)).toNat)==((text.take (w64 ((w64 (at_+30))+l6Num_)).toNat).drop (w64 (at_+30)).toNat))))))) else
 (some false)))))).bind fun same=>
 ((need (decide (0≤(w64 (head+6)))&&decide ((w64 (head+6))≤text.length)) (need (decide (0≤head)&&decide (head≤(w64 (head+6)))) ((Zaw 33639248 4).bind fun l6Bytes_=>
 ((Zaw 20 2).bind fun l6Bytes_1=>
 (need (fits (l6Bytes_.length+l6Bytes_1.length)) (bif (((text.take (w64 (head+6)).toNat).drop head.toNat)==(l6Bytes_++l6Bytes_1)) then (need (decide (0≤(w64 (head+46)))&&decide ((w64 (head+46))≤text.length)) (need (decide (0≤(w64 (head+32)))&&decide ((w64 (head+32))≤(w64 (head+46)))) ((Zaw 0 10).bind fun l6Bytes_2=>
 ((Zaw at_ 4).bind fun l6Bytes_3=>
 (need (fits (l6Bytes_2.length+l6Bytes_3.length)) (some (((text.take (w64 (head+46)).toNat).drop (w64 (head+32)).toNat)==(l6Bytes_2++l6Bytes_3)))))))) else
 (some false))))))).bind fun rest=>
 ((bif same then (some ((w64 (46+l6Num_)),rest)) else
 (some ((w64 (46+l6Num_)),false))).bind fun (c1,c2)=>
 (some (c1,c2))))))))
def Zap.l0.step (again:(Str×Int×Int×Int×Int×Int×List (Str×Int×Int×Int×Int×Int×Int×Str))→Option ((Str×Int×Int×Int×List (Str×Int×Int×Int×Int×Int×Int×Str))⊕(Bool×List (Str×Int×Int×Int×Int×Int×Int×Str)))):(Str×Int×Int×Int×Int×Int×List (Str×Int×Int×Int×Int×Int×Int×Str))→Option ((Str×Int×Int×Int×List (Str×Int×Int×Int×Int×Int×Int×Str))⊕(Bool×List (Str×Int×Int×Int×Int×Int×Int×Str))):=fun (text1,many,at_,head,own,i,list)=>
 (bif (decide (i<many)) then ((Zgr text1 head own).bind fun (r3,r4)=>
 (bif (!r4) then ((some (false,[])).map Sum.inr) else
 (need (decide (0≤own)&&decide (own≤text1.length)) ((ZeV (text1.drop own.toNat)).bind fun (r5,r6,r7,r8,r9,r10,r11,r12,r13,r14)=>
 (again (text1,many,at_,(w64 (head+r3)),(w64 (own+r13)),(w64 (i+1)),list)))))) else
 (some (.inl (text1,many,at_,head,list))))
def Zap.l0:=ZaC Zap.l0.step
theorem Zap.l0.succ (n:Nat) t:Zap.l0 (n+1) t=Zap.l0.step (Zap.l0 n) t:=rfl
def Zap (text:Str):Option (Bool×List (Str×Int×Int×Int×Int×Int×Int×Str)):=
 ((Zcp text (w64 ((text.length:Int)-12)) 2).bind fun l6Num_=>
 ((ZhH l6Num_ 0 6).bind fun l1In_=>
 (bif (!l1In_) then (some (false,[])) else
 ((Zfl text l6Num_).bind fun (r,r1,r2)=>
 ((bif (!r1) then (some true) else
 ((ZaF r2).bind fun ZipOk=>
 (some (!ZipOk)))).bind fun c=>
 (bif c then (some (false,[])) else
 ((Zap.l0 ((l6Num_-(0:Int)).toNat+1) (text,l6Num_,r,r,0,0,r2)).bind fun r=>match r with
 | .inl (text2,many1,at_1,head1,list1)=>(need (decide (0≤head1)&&decide (head1≤text2.length)) ((ZhF many1 (w64 (head1-at_1)) at_1).bind fun l7End_=>
 (bif (!((text2.drop head1.toNat)==l7End_)) then (some (false,[])) else
 (some (true,list1)))))
 | .inr r=>some r)))))))
def ZbU.l0.step (again:((List (Str×Int×Int×Int×Int×Int×Int×Str))×Str×Int)→Option ((Unit)⊕(Bool))):((List (Str×Int×Int×Int×Int×Int×Int×Str))×Str×Int)→Option ((Unit)⊕(Bool)):=fun (list1,name1,i)=>
 (bif (decide (i<(list1.length:Int))) then ((need (decide (0≤i)&&decide (i<list1.length)) (bif ((list1.getD i.toNat ([],0,0,0,0,0,0,[])).1==name1) then (some true) else
 (need (decide (0≤i)&&decide (i<list1.length)) ((ZdA ((list1.getD i.toNat ([],0,0,0,0,0,0,[])).1) name1).bind fun l7Under_=>
 (bif l7Under_ then (some true) else
 (need (decide (0≤i)&&decide (i<list1.length)) ((ZdA name1 ((list1.getD i.toNat ([],0,0,0,0,0,0,[])).1)).bind fun l7Under_1=>
 (some l7Under_1)))))))).bind fun c=>
 (bif c then ((some true).map Sum.inr) else
 (again (list1,name1,(w64 (i+1)))))) else
 (some (.inl ())))
def ZbU.l0:=ZaC ZbU.l0.step
theorem ZbU.l0.succ (n:Nat) t:ZbU.l0 (n+1) t=ZbU.l0.step (ZbU.l0 n) t:=rfl
def ZbU (list:List (Str×Int×Int×Int×Int×Int×Int×Str)) (name:Str):Option (Bool):=
 ((ZbU.l0 (((list.length:Int)-(0:Int)).toNat+1) (list,name,0)).bind fun r=>match r with
 | .inl _=>(some false)
 | .inr r=>some r)
def Zco (list:List (Str×Int×Int×Int×Int×Int×Int×Str)) (k:Int):Option (List (Str×Int×Int×Int×Int×Int×Int×Str)):=
 (need (decide (0≤k)&&decide (k≤list.length)) (need (fits (([]:List (Str×Int×Int×Int×Int×Int×Int×Str)).length+(list.take k.toNat).length)) (need (decide (0≤(w64 (k+1)))&&decide ((w64 (k+1))≤list.length)) (need (fits (([]++(list.take k.toNat)).length+(list.drop (w64 (k+1)).toNat).length)) (some (([]++(list.take k.toNat))++(list.drop (w64 (k+1)).toNat)))))))
def Zgg (name:Str) (y:Int) (mo:Int) (d:Int) (h:Int) (mi:Int) (sec:Int) (text:Str) (list:List (Str×Int×Int×Int×Int×Int×Int×Str)):Option (Int×List (Str×Int×Int×Int×Int×Int×Int×Str)):=
 ((ZaM name y mo d h mi sec text).bind fun EntryOk=>
 (bif (!EntryOk) then (some (1,list)) else
 ((ZbU list name).bind fun l8Clash_=>
 (bif l8Clash_ then (some (3,list)) else
 (bif (decide ((list.length:Int)≥6)) then (some (4,list)) else
 (need (fits (([]:List (Str×Int×Int×Int×Int×Int×Int×Str)).length+list.length)) (need (fits (([]++list).length+([(name,y,mo,d,h,mi,sec,text)]:List (Str×Int×Int×Int×Int×Int×Int×Str)).length)) (some (0,(([]++list)++[(name,y,mo,d,h,mi,sec,text)]))))))))))
def ZbJ (text:Str) (ename:Str) (ey:Int) (emo:Int) (ed:Int) (eh:Int) (emi:Int) (esec:Int) (etext:Str):Option (Str×Int):=
 ((Zap text).bind fun (r,r1)=>
 (bif (!r) then (some ([],1)) else
 ((Zgg ename ey emo ed eh emi esec etext r1).bind fun (r2,r3)=>
 (bif (r2 != 0) then (some (text,r2)) else
 ((ZcL r3).bind fun l7Put_=>
 (some (l7Put_,0)))))))
def Zb5 (text:Str) (name:Str):Option (Str×Int):=
 ((Zap text).bind fun (r,r1)=>
 ((Zgd r1 name).bind fun l7At_=>
 (bif (!r) then (some ([],1)) else
 (bif (decide (l7At_<0)) then (some (text,2)) else
 ((Zco r1 l7At_).bind fun l8Withou=>
 ((ZcL l8Withou).bind fun l7Put_=>
 (some (l7Put_,0))))))))
def Zfy (text:Str) (ok:Bool):Option (Str):=
 (bif (!ok) then (some []) else
 (some text))
def Zb3 (text:Str) (ename:Str) (ey:Int) (emo:Int) (ed:Int) (eh:Int) (emi:Int) (esec:Int) (etext:Str):Option (Str×Int):=
 ((Zap text).bind fun (r,r1)=>
 ((Zgd r1 ename).bind fun l7At_=>
 ((bif (!r) then (some true) else
 ((ZaM ename ey emo ed eh emi esec etext).bind fun EntryOk=>
 (some (!EntryOk)))).bind fun c=>
 (bif c then ((Zfy text r).bind fun l8Same_=>
 (some (l8Same_,1))) else
 (bif (decide (l7At_<0)) then (some (text,2)) else
 (need (decide (0≤l7At_)&&decide (l7At_<r1.length)) ((ZcL (r1.set l7At_.toNat (ename,ey,emo,ed,eh,emi,esec,etext))).bind fun l7Put_=>
 (some (l7Put_,0)))))))))
def Zb4 (text:Str) (name:Str) (to_:Str):Option (Str×Int):=
 ((Zap text).bind fun (r,r1)=>
 ((Zgd r1 name).bind fun l7At_=>
 ((bif (!r) then (some true) else
 ((Zaq to_).bind fun NameOk=>
 (some (!NameOk)))).bind fun c=>
 (bif c then ((Zfy text r).bind fun l8Same_=>
 (some (l8Same_,1))) else
 (bif (decide (l7At_<0)) then (some (text,2)) else
 ((Zco r1 l7At_).bind fun l8Withou=>
 ((ZbU l8Withou to_).bind fun l8Clash_=>
 (bif l8Clash_ then (some (text,3)) else
 (need (decide (0≤l7At_)&&decide (l7At_<r1.length)) ((ZcL (r1.set l7At_.toNat (to_,(r1.getD l7At_.toNat ([],0,0,0,0,0,0,[])).2.1,(r1.getD l7At_.toNat ([],0,0,0,0,0,0,[])).2.2.1,(r1.getD l7At_.toNat ([],0,0,0,0,0,0,[])).2.2.2.1,(r1.getD l7At_.toNat ([],0,0,0,0,0,0,[])).2.2.2.2.1,(r1.getD l7At_.toNat ([],0,0,0,0,0,0,[])).2.2.2.2.2.1,(r1.getD l7At_.toNat ([],0,0,0,0,0,0,[])).2.2.2.2.2.2.1,(r1.getD l7At_.toNat ([],0,0,0,0,0,0,[])).2.2.2.2.2.2.2))).bind fun l7Put_=>
 (some (l7Put_,0))))))))))))
def ZaE.l0.step (again:(Str×Int×(List (Str×Int×Int×Int×Int×Int×Int×Str))×List (Str×Int×Int×Int×Int×Int×Int×Str))→Option ((List (Str×Int×Int×Int×Int×Int×Int×Str))⊕(Str×Int))):(Str×Int×(List (Str×Int×Int×Int×Int×Int×Int×Str))×List (Str×Int×Int×Int×Int×Int×Int×Str))→Option ((List (Str×Int×Int×Int×Int×Int×Int×Str))⊕(Str×Int)):=fun (a1,i,out,list)=>
 (bif (decide (i<(list.length:Int))) then (need (decide (0≤i)&&decide (i<list.length)) ((Zgg ((list.getD i.toNat ([],0,0,0,0,0,0,[])).1) ((list.getD i.toNat ([],0,0,0,0,0,0,[])).2.1) ((list.getD i.toNat ([],0,0,0,0,0,0,[])).2.2.1) ((list.getD i.toNat ([],0,0,0,0,0,0,[])).2.2.2.1) ((list.getD i.toNat ([],0,0,0,0,0,0,[])).2.2.2.2.1) ((list.getD i.toNat ([],0,0,0,0,0,0,[])).2.2.2.2.2.1) ((list.getD i.toNat ([],0,0,0,0,0,0,[])).2.2.2.2.2.2.1) ((list.getD i.toNat ([],0,0,0,0,0,0,[])).2.2.2.2.2.2.2) out).bind fun (r4,r5)=>
 (bif (r4 != 0) then ((some (a1,r4)).map Sum.inr) else
 (again (a1,(w64 (i+1)),r5,list))))) else
 (some (.inl out)))
def ZaE.l0:=ZaC ZaE.l0.step
theorem ZaE.l0.succ (n:Nat) t:ZaE.l0 (n+1) t=ZaE.l0.step (ZaE.l0 n) t:=rfl
def ZaE (a:Str) (b:Str):Option (Str×Int):=
 ((Zap a).bind fun (r,r1)=>
 ((Zap b).bind fun (r2,r3)=>
 ((bif (!r) then (some true) else
 (some (!r2))).bind fun c=>
 (bif c then (some ([],1)) else
 ((ZaE.l0 (((r3.length:Int)-(0:Int)).toNat+1) (a,0,r1,r3)).bind fun r=>match r with
 | .inl out1=>((ZcL out1).bind fun l7Put_=>
 (some (l7Put_,0)))
 | .inr r=>some r)))))
def Zdu (code_:List Int):Option (List Int×Int):=
 (bif (decide ((code_.length:Int)>2000)) then (need (decide (0≤(2000:Int))&&decide ((2000:Int)≤code_.length)) (some ((code_.take 2000),0))) else
 (some (code_,0)))
def pick (n:Int) (b:List Int) (p:Int):Option (Int×List Int×Int):=
 ((bif (decide (n<1)) then (some true) else
 (some ((b.length:Int)==0))).bind fun c=>
 (bif c then (some (0,b,(w64 (p+1)))) else
 (bif (decide ((w64 ((w64 (p+1))-1))<(b.length:Int))) then (need (decide (0≤(w64 ((w64 (p+1))-1)))&&decide ((w64 ((w64 (p+1))-1))<b.length)) (need (n != 0) (some (((w64 (b.getD (w64 ((w64 (p+1))-1)).toNat 0)).tmod n),b,(w64 (p+1)))))) else
 (need ((b.length:Int) != 0) (need (decide (0≤((w64 ((w64 (p+1))-1)).tmod (b.length:Int)))&&decide (((w64 ((w64 (p+1))-1)).tmod (b.length:Int))<b.length)) (need ((b.length:Int) != 0) (need (decide (0≤((w64 ((w64 ((w64 ((w64 (p+1))-1))*7))+3)).tmod (b.length:Int)))&&decide (((w64 ((w64 ((w64 ((w64 (p+1))-1))*7))+3)).tmod (b.length:Int))<b.length)) (need ((b.length:Int) != 0) (need (n != 0) (some (((ZlS .i64 (w64 ((w64 ((w64 ((w64 ((w64 (b.getD ((w64 ((w64 (p+1))-1)).tmod (b.length:Int)).toNat 0))*131))+(w64 ((w64 (b.getD ((w64 ((w64 ((w64 ((w64 (p+1))-1))*7))+3)).tmod (b.length:Int)).toNat 0))*1117))))+(w64 ((w64 ((w64 (p+1))-1))*29))))+(w64 ((w64 ((w64 ((w64 (p+1))-1)).tdiv (b.length:Int)))*53)))) (w64 ((w64 ((w64 ((w64 ((w64 ((w64 (b.getD ((w64 ((w64 (p+1))-1)).tmod (b.length:Int)).toNat 0))*131))+(w64 ((w64 (b.getD ((w64 ((w64 ((w64 ((w64 (p+1))-1))*7))+3)).tmod (b.length:Int)).toNat 0))*1117))))+(w64 ((w64 ((w64 (p+1))-1))*29))))+(w64 ((w64 ((w64 ((w64 (p+1))-1)).tdiv (b.length:Int)))*53)))).tdiv 64))).tmod n),b,(w64 (p+1)))))))))))))
def Zj7 (xs:List Str) (b:List Int) (p:Int):Option (Str×List Int×Int):=
 ((pick (xs.length:Int) b p).bind fun (r,r1,r2)=>
 (need (decide (0≤r)&&decide (r<xs.length)) (some ((xs.getD r.toNat []),r1,r2))))
def ZdF.l0.step (again:(Str×Int×Str)→Option (Str)):(Str×Int×Str)→Option (Str):=fun (s1,n1,out)=>
 (bif (decide (n1>0)) then (bif ((n1.tmod 2)==1) then (need (fits (out.length+s1.length)) (need (fits (s1.length+s1.length)) (again ((s1++s1),(w64 (n1.tdiv 2)),(out++s1))))) else
 (need (fits (s1.length+s1.length)) (again ((s1++s1),(w64 (n1.tdiv 2)),out)))) else
 (some out))
def ZdF.l0:=ZaC ZdF.l0.step
def ZdF (s:Str) (n:Int):Option (Str):=
 ((ZdF.l0 (n.toNat+1) (s,n,[])).bind fun out1=>
 (some out1))
def Zb0.l0.step (again:(Int×List Int×Int×List Int)→Option (List Int×Int×List Int)):(Int×List Int×Int×List Int)→Option (List Int×Int×List Int):=fun (n,o,o1,out)=>
 (bif (decide (n>0)) then ((pick 256 o o1).bind fun (r12,r13,r14)=>
 (need (fits (out.length+([(IntKind.wrap .u8 r12)]:List (Int)).length)) (again ((w64 (n-1)),r13,r14,(out++[(IntKind.wrap .u8 r12)]))))) else
 (some (o,o1,out)))
def Zb0.l0:=ZaC Zb0.l0.step
def Zb0.l1.step (again:(Str×Int×List Int×Int)→Option (Str×List Int×Int)):(Str×Int×List Int×Int)→Option (Str×List Int×Int):=fun (out2,n1,o4,o5)=>
 (bif (decide (n1>0)) then ((Zj7 [[116,104,101,32],[115,116,111,110,101,32],[116,104,97,116,32],[98,101,97,114,115,32],[97,32],[98,101,97,109],[46,32]] o4 o5).bind fun (r18,r19,r20)=>
 (need (fits (out2.length+r18.length)) (again ((out2++r18),(w64 (n1-1)),r19,r20)))) else
 (some (out2,o4,o5)))
def Zb0.l1:=ZaC Zb0.l1.step
def Zb0 (b:List Int) (p:Int):Option (Str×List Int×Int):=
 ((pick 8 b p).bind fun (r,r1,r2)=>
 (bif (r==0) then (some ([],r1,r2)) else
 (bif (r==1) then ((Zj7 [[97],[97,98],[97,98,99],[120,121,122,122,121,32]] r1 r2).bind fun (r3,r4,r5)=>
 ((pick 40 r4 r5).bind fun (r6,r7,r8)=>
 ((ZdF r3 (w64 (1+r6))).bind fun l1Many_=>
 (some (l1Many_,r7,r8))))) else
 (bif (r==2) then ((pick 40 r1 r2).bind fun (r9,r10,r11)=>
 ((Zb0.l0 ((r9-0).toNat+1) (r9,r10,r11,[])).bind fun (o2,o3,out1)=>
 (some ((ZbF out1),o2,o3)))) else
 (bif (r==3) then ((ZdF [113] 300).bind fun l1Many_1=>
 (some (l1Many_1,r1,r2))) else
 ((pick 12 r1 r2).bind fun (r15,r16,r17)=>
 ((Zb0.l1 ((r15-0).toNat+1) ([],r15,r16,r17)).bind fun (out3,o6,o7)=>
 (some (out3,o6,o7)))))))))
def ZcA (b:List Int) (p:Int):Option (Str×List Int×Int):=
 ((pick 16 b p).bind fun (r,r1,r2)=>
 (bif (r==0) then ((ZdF [113] 301).bind fun l1Many_=>
 (some (l1Many_,r1,r2))) else
 ((Zb0 r1 r2).bind fun (r3,r4,r5)=>
 (some (r3,r4,r5)))))
def ZbV (b:List Int) (p:Int):Option (Str×List Int×Int):=
 ((Zj7 [[97],[98,46,116,120,116],[100,105,114,47,97],[100,105,114,47,98],[120,45,121,95,122],[97,47,98,47,99,47,100],[114,101,97,100,109,101]] b p).bind fun (r,r1,r2)=>
 (some (r,r1,r2)))
def Zbw (b:List Int) (p:Int):Option (Str×List Int×Int):=
 ((pick 6 b p).bind fun (r,r1,r2)=>
 (bif (r==0) then ((Zj7 [[],[47],[97,47],[46,46],[97,47,46,46,47,98],[65],[97,32,98],[101,108,101,118,101,110,108,101,116,116,101],[97,47,98,47,99,47,100,47,101]] r1 r2).bind fun (r3,r4,r5)=>
 (some (r3,r4,r5))) else
 ((ZbV r1 r2).bind fun (r6,r7,r8)=>
 (some (r6,r7,r8)))))
def ZcW.l0.step (again:((List (Str×Int×Int×Int×Int×Int×Int×Str))×(List (Str×Int×Int×Int×Int×Int×Int×Str))×Int)→Option ((Unit)⊕(Bool))):((List (Str×Int×Int×Int×Int×Int×Int×Str))×(List (Str×Int×Int×Int×Int×Int×Int×Str))×Int)→Option ((Unit)⊕(Bool)):=fun (a,b,i)=>
 (bif (decide (i<(a.length:Int))) then (need (decide (0≤i)&&decide (i<a.length)) (need (decide (0≤i)&&decide (i<b.length)) (bif (!(((a.getD i.toNat ([],0,0,0,0,0,0,[])).1==(b.getD i.toNat ([],0,0,0,0,0,0,[])).1)&&(((a.getD i.toNat ([],0,0,0,0,0,0,[])).2.1==(b.getD i.toNat ([],0,0,0,0,0,0,[])).2.1)&&(((a.getD i.toNat ([],0,0,0,0,0,0,[])).2.2.1==(b.getD i.toNat ([],0,0,0,0,0,0,[])).2.2.1)&&(((a.getD i.toNat ([],0,0,0,0,0,0,[])).2.2.2.1==(b.getD i.toNat ([],0,0,0,0,0,0,[])).2.2.2.1)&&(((a.getD i.toNat ([],0,0,0,0,0,0,[])).2.2.2.2.1==(b.getD i.toNat ([],0,0,0,0,0,0,[])).2.2.2.2.1)&&(((a.getD i.toNat ([],0,0,0,0,0,0,[])).2.2.2.2.2.1==(b.getD i.toNat ([],0,0,0,0,0,0,[])).2.2.2.2.2.1)&&(((a.getD i.toNat ([],0,0,0,0,0,0,[])).2.2.2.2.2.2.1==(b.getD i.toNat ([],0,0,0,0,0,0,[])).2.2.2.2.2.2.1)&&(((a.getD i.toNat ([],0,0,0,0,0,0,[])).2.2.2.2.2.2.2==(b.getD i.toNat ([],0,0,0,0,0,0,[])).2.2.2.2.2.2.2)&&true))))))))) then ((some false).map Sum.inr) else
 (again (a,b,(w64 (i+1))))))) else
 (some (.inl ())))
def ZcW.l0:=ZaC ZcW.l0.step
theorem ZcW.l0.succ (n:Nat) t:ZcW.l0 (n+1) t=ZcW.l0.step (ZcW.l0 n) t:=rfl
def ZcW (xs:List (Str×Int×Int×Int×Int×Int×Int×Str)) (ys:List (Str×Int×Int×Int×Int×Int×Int×Str)):Option (Bool):=
 (bif ((xs.length:Int) != (ys.length:Int)) then (some false) else
 ((ZcW.l0 (((xs.length:Int)-(0:Int)).toNat+1) (xs,ys,0)).bind fun r=>match r with
 | .inl _=>(some true)
 | .inr r=>some r))
def ZgG (xs:List Int) (b:List Int) (p:Int):Option (Int×List Int×Int):=
 ((pick (xs.length:Int) b p).bind fun (r,r1,r2)=>
 (need (decide (0≤r)&&decide (r<xs.length)) (some ((xs.getD r.toNat 0),r1,r2))))
def Zcv (s:Str) (b:List Int) (p:Int):Option (Str×List Int×Int):=
 (bif (s==[]) then (some (s,b,p)) else
 ((pick (s.length:Int) b p).bind fun (r,r1,r2)=>
 ((pick 5 r1 r2).bind fun (r3,r4,r5)=>
 (bif (r3==0) then (need (decide (0≤r)&&decide (r≤s.length)) ((pick 256 r4 r5).bind fun (r6,r7,r8)=>
 (need (fits ((s.take r.toNat).length+(ZbF [(IntKind.wrap .u8 r6)]).length)) (need (decide (0≤(w64 (r+1)))&&decide ((w64 (r+1))≤s.length)) (need (fits (((s.take r.toNat)++(ZbF [(IntKind.wrap .u8 r6)])).length+(s.drop (w64 (r+1)).toNat).length)) (some ((((s.take r.toNat)++(ZbF [(IntKind.wrap .u8 r6)]))++(s.drop (w64 (r+1)).toNat)),r7,r8))))))) else
 (bif (r3==1) then (need (decide (0≤r)&&decide (r≤s.length)) (some ((s.take r.toNat),r4,r5))) else
 (bif (r3==2) then ((Zj7 [[120],[0],[109,111,114,101]] r4 r5).bind fun (r9,r10,r11)=>
 (need (fits (s.length+r9.length)) (some ((s++r9),r10,r11)))) else
 (some (s,r4,r5))))))))
def Zcl (b:List Int) (p:Int):Option (Int×Int×Int×Int×Int×Int×List Int×Int):=
 ((ZgG [1980,2000,2024,2107] b p).bind fun (r,r1,r2)=>
 ((pick 12 r1 r2).bind fun (r3,r4,r5)=>
 ((pick 28 r4 r5).bind fun (r6,r7,r8)=>
 ((pick 24 r7 r8).bind fun (r9,r10,r11)=>
 ((pick 60 r10 r11).bind fun (r12,r13,r14)=>
 ((pick 30 r13 r14).bind fun (r15,r16,r17)=>
 (some (r,(w64 (1+r3)),(w64 (1+r6)),r9,r12,(w64 (2*r15)),r16,r17))))))))
def Zb8 (b:List Int) (p:Int):Option (Int×Int×Int×Int×Int×Int×List Int×Int):=
 ((Zcl b p).bind fun (r,r1,r2,r3,r4,r5,r6,r7)=>
 ((pick 10 r6 r7).bind fun (r8,r9,r10)=>
 (bif (r8==0) then ((ZgG [0,29,30,31,32] r9 r10).bind fun (r11,r12,r13)=>
 (some (r,r1,r11,r3,r4,r5,r12,r13))) else
 (bif (r8==1) then ((ZgG [1979,2100,2108,1900] r9 r10).bind fun (r14,r15,r16)=>
 (some (r14,r1,r2,r3,r4,r5,r15,r16))) else
 (bif (r8==2) then ((ZgG [1,59,60,(-2)] r9 r10).bind fun (r17,r18,r19)=>
 (some (r,r1,r2,r3,r4,r17,r18,r19))) else
 (bif (r8==3) then ((ZgG [0,2,13] r9 r10).bind fun (r20,r21,r22)=>
 (some (r,r20,r2,r3,r4,r5,r21,r22))) else
 (some (r,r1,r2,r3,r4,r5,r9,r10))))))))
def Zcz (b:List Int) (p:Int):Option (Str×Int×Int×Int×Int×Int×Int×Str×List Int×Int):=
 ((ZbV b p).bind fun (r,r1,r2)=>
 ((Zcl r1 r2).bind fun (r3,r4,r5,r6,r7,r8,r9,r10)=>
 ((Zb0 r9 r10).bind fun (r11,r12,r13)=>
 (some (r,r3,r4,r5,r6,r7,r8,r11,r12,r13)))))
def Zb9 (b:List Int) (p:Int):Option (Str×Int×Int×Int×Int×Int×Int×Str×List Int×Int):=
 ((Zcz b p).bind fun (r,r1,r2,r3,r4,r5,r6,r7,r8,r9)=>
 ((pick 10 r8 r9).bind fun (r10,r11,r12)=>
 (bif (r10==0) then ((Zbw r11 r12).bind fun (r13,r14,r15)=>
 (some (r13,r1,r2,r3,r4,r5,r6,r7,r14,r15))) else
 (bif (r10==1) then ((Zb8 r11 r12).bind fun (r16,r17,r18,r19,r20,r21,r22,r23)=>
 (some (r,r16,r17,r18,r19,r20,r21,r7,r22,r23))) else
 (bif (r10==2) then ((ZcA r11 r12).bind fun (r24,r25,r26)=>
 (some (r,r1,r2,r3,r4,r5,r6,r24,r25,r26))) else
 (some (r,r1,r2,r3,r4,r5,r6,r7,r11,r12)))))))
def Zbk.l1.step (again:(Int×List Int×Int×List (Str×Int×Int×Int×Int×Int×Int×Str))→Option (List Int×Int×List (Str×Int×Int×Int×Int×Int×Int×Str))):(Int×List Int×Int×List (Str×Int×Int×Int×Int×Int×Int×Str))→Option (List Int×Int×List (Str×Int×Int×Int×Int×Int×Int×Str)):=fun (n1,o4,o5,out2)=>
 (bif (decide (n1<6)) then ((ZgK n1).bind fun l1Dec_=>
 (need (fits (([102]:Str).length+l1Dec_.length)) ((Zcl o4 o5).bind fun (r18,r19,r20,r21,r22,r23,r24,r25)=>
 (need (fits (out2.length+([(([102]++l1Dec_),r18,r19,r20,r21,r22,r23,[])]:List (Str×Int×Int×Int×Int×Int×Int×Str)).length)) (again ((w64 (n1+1)),r24,r25,(out2++[(([102]++l1Dec_),r18,r19,r20,r21,r22,r23,[])]))))))) else
 (some (o4,o5,out2)))
def Zbk.l1:=ZaC Zbk.l1.step
theorem Zbk.l1.succ (n:Nat) t:Zbk.l1 (n+1) t=Zbk.l1.step (Zbk.l1 n) t:=rfl
def Zbk.l0.step (again:(Int×List Int×Int×List (Str×Int×Int×Int×Int×Int×Int×Str))→Option (List Int×Int×List (Str×Int×Int×Int×Int×Int×Int×Str))):(Int×List Int×Int×List (Str×Int×Int×Int×Int×Int×Int×Str))→Option (List Int×Int×List (Str×Int×Int×Int×Int×Int×Int×Str)):=fun (n,o,o1,out)=>
 (bif (decide (n>0)) then ((Zcz o o1).bind fun (r3,r4,r5,r6,r7,r8,r9,r10,r11,r12)=>
 ((Zgg r3 r4 r5 r6 r7 r8 r9 r10 out).bind fun (r13,r14)=>
 (again ((w64 (n-1)),r11,r12,r14)))) else
 (some (o,o1,out)))
def Zbk.l0:=ZaC Zbk.l0.step
theorem Zbk.l0.succ (n:Nat) t:Zbk.l0 (n+1) t=Zbk.l0.step (Zbk.l0 n) t:=rfl
def Zbk (b:List Int) (p:Int):Option (List Int×Int×List (Str×Int×Int×Int×Int×Int×Int×Str)):=
 ((pick 5 b p).bind fun (r,r1,r2)=>
 ((Zbk.l0 ((r-0).toNat+1) (r,r1,r2,[])).bind fun (o2,o3,out1)=>
 ((pick 24 o2 o3).bind fun (r15,r16,r17)=>
 (bif (r15==0) then ((Zbk.l1 ((6-(out1.length:Int)).toNat+1) ((out1.length:Int),r16,r17,out1)).bind fun (o6,o7,out3)=>
 (some (o6,o7,out3))) else
 (some (r16,r17,out1))))))
def Zdq (b:List Int) (p:Int):Option (Str×List Int×Int):=
 ((Zbk b p).bind fun (r,r1,r2)=>
 ((ZcL r2).bind fun l7Put_=>
 (some (l7Put_,r,r1))))
def Zce (code_:List Int):Option (Str×Str):=
 ((Zdu code_).bind fun (r,r1)=>
 ((Zdq r r1).bind fun (r2,r3,r4)=>
 ((Zcv r2 r3 r4).bind fun (r5,r6,r7)=>
 ((ZbV r6 r7).bind fun (r8,r9,r10)=>
 (some (r5,r8))))))
def Zbe (code_:List Int):Option (Str×Str×Int×Int×Int×Int×Int×Int×Str):=
 ((Zdu code_).bind fun (r,r1)=>
 ((Zdq r r1).bind fun (r2,r3,r4)=>
 ((Zcv r2 r3 r4).bind fun (r5,r6,r7)=>
 ((Zb9 r6 r7).bind fun (r8,r9,r10,r11,r12,r13,r14,r15,r16,r17)=>
 (some (r5,r8,r9,r10,r11,r12,r13,r14,r15))))))
def Zcf (code_:List Int):Option (Str×Str):=
 ((Zce code_).bind fun (r,r1)=>
 (some (r,r1)))
def Zcc (code_:List Int):Option (Str×Str×Int×Int×Int×Int×Int×Int×Str):=
 ((Zbe code_).bind fun (r,r1,r2,r3,r4,r5,r6,r7,r8)=>
 (some (r,r1,r2,r3,r4,r5,r6,r7,r8)))
def Zcd (code_:List Int):Option (Str×Str×Str):=
 ((Zdu code_).bind fun (r,r1)=>
 ((Zdq r r1).bind fun (r2,r3,r4)=>
 ((Zcv r2 r3 r4).bind fun (r5,r6,r7)=>
 ((ZbV r6 r7).bind fun (r8,r9,r10)=>
 ((Zbw r9 r10).bind fun (r11,r12,r13)=>
 (some (r5,r8,r11)))))))
def Zbt (code_:List Int):Option (Str×Str):=
 ((Zdu code_).bind fun (r,r1)=>
 ((Zdq r r1).bind fun (r2,r3,r4)=>
 ((Zdq r3 r4).bind fun (r5,r6,r7)=>
 ((Zcv r5 r6 r7).bind fun (r8,r9,r10)=>
 (some (r2,r8))))))
def FnZipJoinOne.l0.step (again:(Str×Str×Int×Str×Int×List (Str×Int×Int×Int×Int×Int×Int×Str))→Option ((Str×Int×Str)⊕(Bool))):(Str×Str×Int×Str×Int×List (Str×Int×Int×Int×Int×Int×Int×Str))→Option ((Str×Int×Str)⊕(Bool)):=fun (a,x,k,y,i,list)=>
 (bif (decide (i<(list.length:Int))) then (need (decide (0≤i)&&decide (i<list.length)) ((Zdk y ((list.getD i.toNat ([],0,0,0,0,0,0,[])).1) ((list.getD i.toNat ([],0,0,0,0,0,0,[])).2.1) ((list.getD i.toNat ([],0,0,0,0,0,0,[])).2.2.1) ((list.getD i.toNat ([],0,0,0,0,0,0,[])).2.2.2.1) ((list.getD i.toNat ([],0,0,0,0,0,0,[])).2.2.2.2.1) ((list.getD i.toNat ([],0,0,0,0,0,0,[])).2.2.2.2.2.1) ((list.getD i.toNat ([],0,0,0,0,0,0,[])).2.2.2.2.2.2.1) ((list.getD i.toNat ([],0,0,0,0,0,0,[])).2.2.2.2.2.2.2)).bind fun (r8,r9)=>
 (bif (r9 != 0) then ((bif (k==r9) then (some (x==a)) else
 (some false)).bind fun c2=>
 ((some c2).map Sum.inr)) else
 (again (a,x,k,r8,(w64 (i+1)),list))))) else
 (some (.inl (x,k,y))))
def FnZipJoinOne.l0:=ZaC FnZipJoinOne.l0.step
theorem FnZipJoinOne.l0.succ (n:Nat) t:FnZipJoinOne.l0 (n+1) t=FnZipJoinOne.l0.step (FnZipJoinOne.l0 n) t:=rfl
def FnZipJoinOne (code_:List Int):Option (Bool):=
 (bif (decide ((code_.length:Int)>1048576)) then (some true) else
 ((Zbt code_).bind fun (r,r1)=>
 ((Zdi r r1).bind fun (r2,r3)=>
 ((ZaE r r1).bind fun (r4,r5)=>
 ((ZaA r1).bind fun (r6,r7)=>
 ((bif (r3 != r5) then (some true) else
 (bif (!(r2==r4)) then (some true) else
 (bif (!r6) then (some true) else
 (bif ((r7.length:Int)==0) then (some true) else
 (some (r3==1)))))).bind fun c=>
 (bif c then ((bif (r3==r5) then (some (r2==r4)) else
 (some false)).bind fun c1=>
 (some c1)) else
 ((FnZipJoinOne.l0 (((r7.length:Int)-(0:Int)).toNat+1) (r,r2,r3,r,0,r7)).bind fun r=>match r with
 | .inl (x1,k1,y1)=>((bif (k1==0) then (some (y1==x1)) else
 (some false)).bind fun c3=>
 (some c3))
 | .inr r=>some r))))))))
def FnZipJoin (code_:List Int):Option (Bool):=
 (bif (decide ((code_.length:Int)>1048576)) then (some true) else
 ((Zbt code_).bind fun (r,r1)=>
 ((Zdi r r1).bind fun (r2,r3)=>
 ((ZaE r r1).bind fun (r4,r5)=>
 ((bif (r3 != r5) then (some true) else
 (bif (!(r2==r4)) then (some true) else
 (some (r3 != 0)))).bind fun c=>
 (bif c then ((bif (r3==r5) then (bif (r2==r4) then (bif (r2==r) then (some true) else
 (some (r2==[]))) else
 (some false)) else
 (some false)).bind fun c1=>
 (some c1)) else
 ((ZaA r).bind fun (r6,r7)=>
 ((ZaA r1).bind fun (r8,r9)=>
 ((ZaA r2).bind fun (r10,r11)=>
 ((Za6 []).bind fun ZipPut=>
 ((Zdi ZipPut r2).bind fun (r12,r13)=>
 ((Zdi r2 ZipPut).bind fun (r14,r15)=>
 (bif r10 then (need (fits (([]:List (Str×Int×Int×Int×Int×Int×Int×Str)).length+r7.length)) (need (fits (([]++r7).length+r9.length)) ((ZcW r11 (([]++r7)++r9)).bind fun cbList_=>
 (bif cbList_ then (bif (r13==0) then (bif (r15==0) then (bif (r12==r2) then (some (r14==r2)) else
 (some false)) else
 (some false)) else
 (some false)) else
 (some false))))) else
 (some false))))))))))))))
def FnZipDrop.l0.step (again:(Str×Str×Bool×Int×Int×(List (Str×Int×Int×Int×Int×Int×Int×Str))×List (Str×Int×Int×Int×Int×Int×Int×Str))→Option ((Str×Str×Bool×Int×List (Str×Int×Int×Int×Int×Int×Int×Str))⊕(Bool))):(Str×Str×Bool×Int×Int×(List (Str×Int×Int×Int×Int×Int×Int×Str))×List (Str×Int×Int×Int×Int×Int×Int×Str))→Option ((Str×Str×Bool×Int×List (Str×Int×Int×Int×Int×Int×Int×Str))⊕(Bool)):=fun (name,x,ok,n,i,was,list)=>
 (bif (decide (i<(was.length:Int))) then (need (decide (0≤i)&&decide (i<was.length)) (bif (!((was.getD i.toNat ([],0,0,0,0,0,0,[])).1==name)) then ((bif (decide (n≥(list.length:Int))) then (some true) else
 (need (decide (0≤n)&&decide (n<list.length)) (need (decide (0≤i)&&decide (i<was.length)) (some (!(((list.getD n.toNat ([],0,0,0,0,0,0,[])).1==(was.getD i.toNat ([],0,0,0,0,0,0,[])).1)&&(((list.getD n.toNat ([],0,0,0,0,0,0,[])).2.1==(was.getD i.toNat ([],0,0,0,0,0,0,[])).2.1)&&(((list.getD n.toNat ([],0,0,0,0,0,0,[])).2.2.1==(was.getD i.toNat ([],0,0,0,0,0,0,[])).2.2.1)&&(((list.getD n.toNat ([],0,0,0,0,0,0,[])).2.2.2.1==(was.getD i.toNat ([],0,0,0,0,0,0,[])).2.2.2.1)&&(((list.getD n.toNat ([],0,0,0,0,0,0,[])).2.2.2.2.1==(was.getD i.toNat ([],0,0,0,0,0,0,[])).2.2.2.2.1)&&(((list.getD n.toNat ([],0,0,0,0,0,0,[])).2.2.2.2.2.1==(was.getD i.toNat ([],0,0,0,0,0,0,[])).2.2.2.2.2.1)&&(((list.getD n.toNat ([],0,0,0,0,0,0,[])).2.2.2.2.2.2.1==(was.getD i.toNat ([],0,0,0,0,0,0,[])).2.2.2.2.2.2.1)&&(((list.getD n.toNat ([],0,0,0,0,0,0,[])).2.2.2.2.2.2.2==(was.getD i.toNat ([],0,0,0,0,0,0,[])).2.2.2.2.2.2.2)&&true))))))))))))).bind fun c2=>
 (bif c2 then ((some false).map Sum.inr) else
 (again (name,x,ok,(w64 (n+1)),(w64 (i+1)),was,list)))) else
 (again (name,x,ok,n,(w64 (i+1)),was,list)))) else
 (some (.inl (name,x,ok,n,list))))
def FnZipDrop.l0:=ZaC FnZipDrop.l0.step
theorem FnZipDrop.l0.succ (n:Nat) t:FnZipDrop.l0 (n+1) t=FnZipDrop.l0.step (FnZipDrop.l0 n) t:=rfl
def FnZipDrop (code_:List Int):Option (Bool):=
 (bif (decide ((code_.length:Int)>1048576)) then (some true) else
 ((Zcf code_).bind fun (r,r1)=>
 ((Zdj r r1).bind fun (r2,r3)=>
 ((Zb5 r r1).bind fun (r4,r5)=>
 ((bif (r3 != r5) then (some true) else
 (bif (!(r2==r4)) then (some true) else
 (some (r3 != 0)))).bind fun c=>
 (bif c then ((bif (r3==r5) then (bif (r2==r4) then (bif (r2==r) then (some true) else
 (some (r2==[]))) else
 (some false)) else
 (some false)).bind fun c1=>
 (some c1)) else
 ((ZaA r).bind fun (r6,r7)=>
 ((ZaA r2).bind fun (r8,r9)=>
 ((FnZipDrop.l0 (((r7.length:Int)-(0:Int)).toNat+1) (r1,r2,r8,0,0,r7,r9)).bind fun r=>match r with
 | .inl (name1,x1,ok1,n1,list1)=>((Zbm x1 name1).bind fun (r10,r11)=>
 ((Zdj x1 name1).bind fun (r12,r13)=>
 ((bif ok1 then (bif (n1==(list1.length:Int)) then (bif (!r11) then (some (r13==2)) else
 (some false)) else
 (some false)) else
 (some false)).bind fun c3=>
 (some c3))))
 | .inr r=>some r)))))))))
def FnZipMove (code_:List Int):Option (Bool):=
 (bif (decide ((code_.length:Int)>1048576)) then (some true) else
 ((Zcd code_).bind fun (r,r1,r2)=>
 ((Zea r r1 r2).bind fun (r3,r4)=>
 ((Zb4 r r1 r2).bind fun (r5,r6)=>
 ((bif (r4 != r6) then (some true) else
 (bif (!(r3==r5)) then (some true) else
 (some (r4 != 0)))).bind fun c=>
 (bif c then ((bif (r4==r6) then (bif (r3==r5) then (bif (r3==r) then (some true) else
 (some (r3==[]))) else
 (some false)) else
 (some false)).bind fun c1=>
 (some c1)) else
 ((ZaA r).bind fun (r7,r8)=>
 ((Zbm r r1).bind fun (r9,r10)=>
 ((Zbm r3 r2).bind fun (r11,r12)=>
 ((Zea r3 r2 r1).bind fun (r13,r14)=>
 ((Zbm r3 r1).bind fun (r15,r16)=>
 (bif r10 then (bif r12 then (bif (r11==r9) then (bif (r14==0) then ((Za6 r8).bind fun ZipPut=>
 (bif (r13==ZipPut) then (bif (r16==(r1==r2)) then ((ZdM r3).bind fun ZipNames=>
 (some ((ZipNames.length:Int)==(r8.length:Int)))) else
 (some false)) else
 (some false))) else
 (some false)) else
 (some false)) else
 (some false)) else
 (some false)))))))))))))
def FnZipSwap.l0.step (again:(Str×Int×Str×Int×Int×Int×Int×Int×Int×Str×(List (Str×Int×Int×Int×Int×Int×Int×Str))×List (Str×Int×Int×Int×Int×Int×Int×Str))→Option ((Unit)⊕(Bool))):(Str×Int×Str×Int×Int×Int×Int×Int×Int×Str×(List (Str×Int×Int×Int×Int×Int×Int×Str))×List (Str×Int×Int×Int×Int×Int×Int×Str))→Option ((Unit)⊕(Bool)):=fun (x,i,o,o1,o2,o3,o4,o5,o6,o7,was,list)=>
 (bif (decide (i<(was.length:Int))) then (need (decide (0≤i)&&decide (i<was.length)) (bif ((was.getD i.toNat ([],0,0,0,0,0,0,[])).1==o) then (need (decide (0≤i)&&decide (i<was.length)) ((Zen x ((was.getD i.toNat ([],0,0,0,0,0,0,[])).1) ((was.getD i.toNat ([],0,0,0,0,0,0,[])).2.1) ((was.getD i.toNat ([],0,0,0,0,0,0,[])).2.2.1) ((was.getD i.toNat ([],0,0,0,0,0,0,[])).2.2.2.1) ((was.getD i.toNat ([],0,0,0,0,0,0,[])).2.2.2.2.1) ((was.getD i.toNat ([],0,0,0,0,0,0,[])).2.2.2.2.2.1) ((was.getD i.toNat ([],0,0,0,0,0,0,[])).2.2.2.2.2.2.1) ((was.getD i.toNat ([],0,0,0,0,0,0,[])).2.2.2.2.2.2.2)).bind fun (r17,r18)=>
 ((need (decide (0≤i)&&decide (i<list.length)) (bif (!(((list.getD i.toNat ([],0,0,0,0,0,0,[])).1==o)&&(((list.getD i.toNat ([],0,0,0,0,0,0,[])).2.1==o1)&&(((list.getD i.toNat ([],0,0,0,0,0,0,[])).2.2.1==o2)&&(((list.getD i.toNat ([],0,0,0,0,0,0,[])).2.2.2.1==o3)&&(((list.getD i.toNat ([],0,0,0,0,0,0,[])).2.2.2.2.1==o4)&&(((list.getD i.toNat ([],0,0,0,0,0,0,[])).2.2.2.2.2.1==o5)&&(((list.getD i.toNat ([],0,0,0,0,0,0,[])).2.2.2.2.2.2.1==o6)&&(((list.getD i.toNat ([],0,0,0,0,0,0,[])).2.2.2.2.2.2.2==o7)&&true))))))))) then (some true) else
 (bif (r18 != 0) then (some true) else
 ((Za6 was).bind fun ZipPut=>
 (some (!(r17==ZipPut))))))).bind fun c3=>
 (bif c3 then ((some false).map Sum.inr) else
 (again (x,(w64 (i+1)),o,o1,o2,o3,o4,o5,o6,o7,was,list)))))) else
 (need (decide (0≤i)&&decide (i<list.length)) (need (decide (0≤i)&&decide (i<was.length)) (bif (!(((list.getD i.toNat ([],0,0,0,0,0,0,[])).1==(was.getD i.toNat ([],0,0,0,0,0,0,[])).1)&&(((list.getD i.toNat ([],0,0,0,0,0,0,[])).2.1==(was.getD i.toNat ([],0,0,0,0,0,0,[])).2.1)&&(((list.getD i.toNat ([],0,0,0,0,0,0,[])).2.2.1==(was.getD i.toNat ([],0,0,0,0,0,0,[])).2.2.1)&&(((list.getD i.toNat ([],0,0,0,0,0,0,[])).2.2.2.1==(was.getD i.toNat ([],0,0,0,0,0,0,[])).2.2.2.1)&&(((list.getD i.toNat ([],0,0,0,0,0,0,[])).2.2.2.2.1==(was.getD i.toNat ([],0,0,0,0,0,0,[])).2.2.2.2.1)&&(((list.getD i.toNat ([],0,0,0,0,0,0,[])).2.2.2.2.2.1==(was.getD i.toNat ([],0,0,0,0,0,0,[])).2.2.2.2.2.1)&&(((list.getD i.toNat ([],0,0,0,0,0,0,[])).2.2.2.2.2.2.1==(was.getD i.toNat ([],0,0,0,0,0,0,[])).2.2.2.2.2.2.1)&&(((list.getD i.toNat ([],0,0,0,0,0,0,[])).2.2.2.2.2.2.2==(was.getD i.toNat ([],0,0,0,0,0,0,[])).2.2.2.2.2.2.2)&&true))))))))) then ((some false).map Sum.inr) else
 (again (x,(w64 (i+1)),o,o1,o2,o3,o4,o5,o6,o7,was,list))))))) else
 (some (.inl ())))
def FnZipSwap.l0:=ZaC FnZipSwap.l0.step
theorem FnZipSwap.l0.succ (n:Nat) t:FnZipSwap.l0 (n+1) t=FnZipSwap.l0.step (FnZipSwap.l0 n) t:=rfl
def FnZipSwap (code_:List Int):Option (Bool):=
 (bif (decide ((code_.length:Int)>1048576)) then (some true) else
 ((Zcc code_).bind fun (r,r1,r2,r3,r4,r5,r6,r7,r8)=>
 ((Zen r r1 r2 r3 r4 r5 r6 r7 r8).bind fun (r9,r10)=>
 ((Zb3 r r1 r2 r3 r4 r5 r6 r7 r8).bind fun (r11,r12)=>
 ((bif (r10 != r12) then (some true) else
 (bif (!(r9==r11)) then (some true) else
 (some (r10 != 0)))).bind fun c=>
 (bif c then ((bif (r10==r12) then (bif (r9==r11) then (bif (r9==r) then (some true) else
 (some (r9==[]))) else
 (some false)) else
 (some false)).bind fun c1=>
 (some c1)) else
 ((ZaA r).bind fun (r13,r14)=>
 ((ZaA r9).bind fun (r15,r16)=>
 ((bif (!r15) then (some true) else
 (some ((r16.length:Int) != (r14.length:Int)))).bind fun c2=>
 (bif c2 then (some false) else
 ((FnZipSwap.l0 (((r14.length:Int)-(0:Int)).toNat+1) (r9,0,r1,r2,r3,r4,r5,r6,r7,r8,r14,r16)).bind fun r=>match r with
 | .inl _=>(some true)
 | .inr r=>some r)))))))))))
def FnZipAdd (code_:List Int):Option (Bool):=
 (bif (decide ((code_.length:Int)>1048576)) then (some true) else
 ((Zbe code_).bind fun (r,r1,r2,r3,r4,r5,r6,r7,r8)=>
 ((Zdk r r1 r2 r3 r4 r5 r6 r7 r8).bind fun (r9,r10)=>
 ((ZbJ r r1 r2 r3 r4 r5 r6 r7 r8).bind fun (r11,r12)=>
 ((bif (r10 != r12) then (some true) else
 (bif (!(r9==r11)) then (some true) else
 (some (r10 != 0)))).bind fun c=>
 (bif c then ((bif (r10==r12) then (bif (r9==r11) then (bif (r9==r) then (some true) else
 (some (r9==[]))) else
 (some false)) else
 (some false)).bind fun c1=>
 (some c1)) else
 ((ZaA r).bind fun (r13,r14)=>
 ((ZaA r9).bind fun (r15,r16)=>
 ((Zdj r9 r1).bind fun (r17,r18)=>
 ((Zdk r9 r1 r2 r3 r4 r5 r6 r7 r8).bind fun (r19,r20)=>
 ((bif r15 then (bif ((r16.length:Int)==(w64 ((r14.length:Int)+1))) then (need (decide (0≤(r14.length:Int))&&decide ((r14.length:Int)≤r16.length)) ((ZcW ((r16.drop 0).take ((r14.length:Int).toNat)) r14).bind fun cbList_=>
 (bif cbList_ then (need (decide (0≤(r14.length:Int))&&decide ((r14.length:Int)<r16.length)) (bif (((r16.getD ((r14.length:Int).toNat) ([],0,0,0,0,0,0,[])).1==r1)&&(((r16.getD ((r14.length:Int).toNat) ([],0,0,0,0,0,0,[])).2.1==r2)&&(((r16.getD ((r14.length:Int).toNat) ([],0,0,0,0,0,0,[])).2.2.1==r3)&&(((r16.getD ((r14.length:Int).toNat) ([],0,0,0,0,0,0,[])).2.2.2.1==r4)&&(((r16.getD ((r14.length:Int).toNat) ([],0,0,0,0,0,0,[])).2.2.2.2.1==r5)&&(((r16.getD ((r14.length:Int).toNat) ([],0,0,0,0,0,0,[])).2.2.2.2.2.1==r6)&&(((r16.getD ((r14.length:Int).toNat) ([],0,0,0,0,0,0,[])).2.2.2.2.2.2.1==r7)&&(((r16.getD ((r14.length:Int).toNat) ([],0,0,0,0,0,0,[])).2.2.2.2.2.2.2==r8)&&true)))))))) then (bif (r18==0) then ((Za6 r14).bind fun ZipPut=>
 (bif (r17==ZipPut) then (some (r20==3)) else
 (some false))) else
 (some false)) else
 (some false))) else
 (some false)))) else
 (some false)) else
 (some false)).bind fun c2=>
 (some c2))))))))))))
def FnZipTwice (code_:List Int) (more:List Int):Option (Bool):=
 ((bif (decide ((code_.length:Int)>1048576)) then (some true) else
 (some (decide ((more.length:Int)>1048576)))).bind fun c=>
 (bif c then (some true) else
 ((Zbe code_).bind fun (r,r1,r2,r3,r4,r5,r6,r7,r8)=>
 ((Zbe more).bind fun (r9,r10,r11,r12,r13,r14,r15,r16,r17)=>
 ((Zdk r r1 r2 r3 r4 r5 r6 r7 r8).bind fun (r18,r19)=>
 ((ZbJ r r1 r2 r3 r4 r5 r6 r7 r8).bind fun (r20,r21)=>
 ((bif (r19 != r21) then (some true) else
 (bif (!(r18==r20)) then (some true) else
 (some (r19 != 0)))).bind fun c1=>
 (bif c1 then ((bif (r19==r21) then (some (r18==r20)) else
 (some false)).bind fun c2=>
 (some c2)) else
 ((Zdk r18 r10 r11 r12 r13 r14 r15 r16 r17).bind fun (r22,r23)=>
 ((Zdk r r10 r11 r12 r13 r14 r15 r16 r17).bind fun (r24,r25)=>
 ((Zdk r24 r1 r2 r3 r4 r5 r6 r7 r8).bind fun (r26,r27)=>
 (bif (r23 != 0) then ((bif (r25 != 0) then (some true) else
 (some (r27 != 0))).bind fun c3=>
 (some c3)) else
 ((Zbm r26 r1).bind fun (r28,r29)=>
 ((Zbm r22 r1).bind fun (r30,r31)=>
 ((bif (r25==0) then (bif (r27==0) then (bif r29 then (bif r31 then (bif (r28==r30) then (some ((r22.length:Int)==(r26.length:Int))) else
 (some false)) else
 (some false)) else
 (some false)) else
 (some false)) else
 (some false)).bind fun c4=>
 (some c4))))))))))))))))
end Ev
end
