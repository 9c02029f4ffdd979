/- What each function of the program computes, as a plain function (printed by a program of this work out of the form of the program). Conditions: none. -/
import Derived.Test.YtlikkbbmehpclaaGreatDoorAGS0
set_option linter.unusedVariables false
set_option linter.unusedSimpArgs false
section
open Go
set_option maxRecDepth 100000
namespace Ev
set_option maxHeartbeats 1000000
def within (n:Int) (low:Int) (high:Int):Option (Bool):=
 ((bif (decide (n≥low)) then (some (decide (n≤high))) else
 (some false)).bind fun c=>
 (some c))
def partOk.l0.step (again:(Str×Int×Int)→Option ((Str)⊕(Bool))):(Str×Int×Int)→Option ((Str)⊕(Bool)):=fun (s1,t,t1)=>
 (bif (decide (t1<t)) then (need (decide (0≤t1)&&decide (t1<s1.length)) ((bif (decide (((s1.getD t1.toNat 0).toNat:Int)<97)) then (bif (decide (((s1.getD t1.toNat 0).toNat:Int)<48)) then (bif (((s1.getD t1.toNat 0).toNat:Int) != 46) then (bif (((s1.getD t1.toNat 0).toNat:Int) != 45) then (some (((s1.getD t1.toNat 0).toNat:Int) != 95)) else
 (some false)) else
 (some false)) else
 (bif (decide (((s1.getD t1.toNat 0).toNat:Int)>57)) then (bif (((s1.getD t1.toNat 0).toNat:Int) != 46) then (bif (((s1.getD t1.toNat 0).toNat:Int) != 45) then (some (((s1.getD t1.toNat 0).toNat:Int) != 95)) else
 (some false)) else
 (some false)) else
 (some false))) else
 (bif (decide (((s1.getD t1.toNat 0).toNat:Int)>122)) then (bif (decide (((s1.getD t1.toNat 0).toNat:Int)<48)) then (bif (((s1.getD t1.toNat 0).toNat:Int) != 46) then (bif (((s1.getD t1.toNat 0).toNat:Int) != 45) then (some (((s1.getD t1.toNat 0).toNat:Int) != 95)) else
 (some false)) else
 (some false)) else
 (bif (decide (((s1.getD t1.toNat 0).toNat:Int)>57)) then (bif (((s1.getD t1.toNat 0).toNat:Int) != 46) then (bif (((s1.getD t1.toNat 0).toNat:Int) != 45) then (some (((s1.getD t1.toNat 0).toNat:Int) != 95)) else
 (some false)) else
 (some false)) else
 (some false))) else
 (some false))).bind fun c=>
 (bif c then ((some false).map Sum.inr) else
 (again (s1,t,(w64 (t1+1))))))) else
 (some (.inl s1)))
def partOk.l0:Nat→(Str×Int×Int)→Option ((Str)⊕(Bool)):=loopN (partOk.l0.step)
theorem partOk.l0.succ (n:Nat) (t:(Str×Int×Int)):partOk.l0 (n+1) t=partOk.l0.step (partOk.l0 n) t:=rfl
def partOk (s:Str):Option (Bool):=
 ((partOk.l0 (((s.length:Int)-(0:Int)).toNat+1) (s,(s.length:Int),0)).bind fun r=>match r with
 | .inl s2=>(((within (s2.length:Int) 1 10).bind fun within_=>
 (bif within_ then (bif (!(s2==[46])) then (some (!(s2==[46,46]))) else
 (some false)) else
 (some false))).bind fun c1=>
 (some c1))
 | .inr r=>some r)
def l1In (n:Int) (low:Int) (high:Int):Option (Bool):=
 ((bif (decide (n≥low)) then (some (decide (n≤high))) else
 (some false)).bind fun c=>
 (some c))
def l1Cut.l0.step (again:(Str×Int×Int×Int×Int×List Str)→Option (Str×Int×List Str)):(Str×Int×Int×Int×Int×List Str)→Option (Str×Int×List Str):=fun (s1,b1,most1,from_,i,out)=>
 ((bif (decide (i<(s1.length:Int))) then (some (decide ((out.length:Int)<most1))) else
 (some false)).bind fun c=>
 (bif c then (need (decide (0≤i)&&decide (i<s1.length)) (bif (((s1.getD i.toNat 0).toNat:Int)==b1) then (need (decide (0≤i)&&decide (i≤s1.length)) (need (decide (0≤from_)&&decide (from_≤i)) (need (fits (out.length+([((s1.take i.toNat).drop from_.toNat)]:List (Str)).length)) (again (s1,b1,most1,(w64 (i+1)),(w64 (i+1)),(out++[((s1.take i.toNat).drop from_.toNat)])))))) else
 (again (s1,b1,most1,from_,(w64 (i+1)),out)))) else
 (some (s1,from_,out))))
def l1Cut.l0:Nat→(Str×Int×Int×Int×Int×List Str)→Option (Str×Int×List Str):=loopN (l1Cut.l0.step)
theorem l1Cut.l0.succ (n:Nat) (t:(Str×Int×Int×Int×Int×List Str)):l1Cut.l0 (n+1) t=l1Cut.l0.step (l1Cut.l0 n) t:=rfl
def l1Cut (s:Str) (b:Int) (most:Int):Option (List Str):=
 ((l1Cut.l0 (((s.length:Int)-(0:Int)).toNat+1) (s,b,most,0,0,[])).bind fun (s2,from_1,out1)=>
 (need (decide (0≤from_1)&&decide (from_1≤s2.length)) (need (fits (out1.length+([(s2.drop from_1.toNat)]:List (Str)).length)) (some (out1++[(s2.drop from_1.toNat)])))))
def szFile (path:Str) (text:Str) (n:Int):Option (Int):=
 (bif (decide ((w64 (n-(path.length:Int)))<0)) then (some (-1)) else
 (bif (decide ((w64 ((w64 (n-(path.length:Int)))-(text.length:Int)))<0)) then (some (-1)) else
 (some (w64 ((w64 (n-(path.length:Int)))-(text.length:Int))))))
def specNameOk.l0.step (again:(Int×Str×Int×List Str)→Option ((Int×Str×List Str)⊕((List Str)⊕(Bool)))):(Int×Str×Int×List Str)→Option ((Int×Str×List Str)⊕((List Str)⊕(Bool))):=fun (i1,w,k,list1)=>
 (bif (decide (k<(w.length:Int))) then ((need (decide (0≤k)&&decide (k<w.length)) (bif (decide (((w.getD k.toNat 0).toNat:Int)≥97)) then (need (decide (0≤k)&&decide (k<w.length)) (bif (decide (((w.getD k.toNat 0).toNat:Int)≤122)) then (some (!true)) else
 (need (decide (0≤k)&&decide (k<w.length)) (bif (decide (((w.getD k.toNat 0).toNat:Int)≥48)) then (need (decide (0≤k)&&decide (k<w.length)) (bif (decide (((w.getD k.toNat 0).toNat:Int)≤57)) then (some (!true)) else
 (need (decide (0≤k)&&decide (k<w.length)) (bif (((w.getD k.toNat 0).toNat:Int)==46) then (some (!true)) else
 (need (decide (0≤k)&&decide (k<w.length)) (bif (((w.getD k.toNat 0).toNat:Int)==45) then (some (!true)) else
 (need (decide (0≤k)&&decide (k<w.length)) (some (!(((w.getD k.toNat 0).toNat:Int)==95)))))))))) else
 (need (decide (0≤k)&&decide (k<w.length)) (bif (((w.getD k.toNat 0).toNat:Int)==46) then (some (!true)) else
 (need (decide (0≤k)&&decide (k<w.length)) (bif (((w.getD k.toNat 0).toNat:Int)==45) then (some (!true)) else
 (need (decide (0≤k)&&decide (k<w.length)) (some (!(((w.getD k.toNat 0).toNat:Int)==95)))))))))))) else
 (need (decide (0≤k)&&decide (k<w.length)) (bif (decide (((w.getD k.toNat 0).toNat:Int)≥48)) then (need (decide (0≤k)&&decide (k<w.length)) (bif (decide (((w.getD k.toNat 0).toNat:Int)≤57)) then (some (!true)) else
 (need (decide (0≤k)&&decide (k<w.length)) (bif (((w.getD k.toNat 0).toNat:Int)==46) then (some (!true)) else
 (need (decide (0≤k)&&decide (k<w.length)) (bif (((w.getD k.toNat 0).toNat:Int)==45) then (some (!true)) else
 (need (decide (0≤k)&&decide (k<w.length)) (some (!(((w.getD k.toNat 0).toNat:Int)==95)))))))))) else
 (need (decide (0≤k)&&decide (k<w.length)) (bif (((w.getD k.toNat 0).toNat:Int)==46) then (some (!true)) else
 (need (decide (0≤k)&&decide (k<w.length)) (bif (((w.getD k.toNat 0).toNat:Int)==45) then (some (!true)) else
 (need (decide (0≤k)&&decide (k<w.length)) (some (!(((w.getD k.toNat 0).toNat:Int)==95)))))))))))).bind fun c=>
 (bif c then (((some false).map Sum.inr).map Sum.inr) else
 (again (i1,w,(w64 (k+1)),list1)))) else
 (some (.inl (i1,w,list1))))
def specNameOk.l0:Nat→(Int×Str×Int×List Str)→Option ((Int×Str×List Str)⊕((List Str)⊕(Bool))):=loopN (specNameOk.l0.step)
theorem specNameOk.l0.succ (n:Nat) (t:(Int×Str×Int×List Str)):specNameOk.l0 (n+1) t=specNameOk.l0.step (specNameOk.l0 n) t:=rfl
def specNameOk.l1.step (again:(Int×List Str)→Option ((List Str)⊕(Bool))):(Int×List Str)→Option ((List Str)⊕(Bool)):=fun (i,list)=>
 (bif (decide (i<(list.length:Int))) then (need (decide (0≤i)&&decide (i<list.length)) ((specNameOk.l0 ((((list.getD i.toNat []).length:Int)-(0:Int)).toNat+1) (i,(list.getD i.toNat []),0,list)).bind fun r=>match r with
 | .inl (i2,w1,list2)=>(((l1In (w1.length:Int) 1 10).bind fun l1In_=>
 (bif (!l1In_) then (some true) else
 (bif (w1==[46]) then (some true) else
 (some (w1==[46,46]))))).bind fun c1=>
 (bif c1 then ((some false).map Sum.inr) else
 (again ((w64 (i2+1)),list2))))
 | .inr r=>some r)) else
 (some (.inl list)))
def specNameOk.l1:Nat→(Int×List Str)→Option ((List Str)⊕(Bool)):=loopN (specNameOk.l1.step)
theorem specNameOk.l1.succ (n:Nat) (t:(Int×List Str)):specNameOk.l1 (n+1) t=specNameOk.l1.step (specNameOk.l1 n) t:=rfl
def specNameOk (s:Str):Option (Bool):=
 ((l1Cut s 47 (w64 ((s.length:Int)+1))).bind fun l1Cut_=>
 ((specNameOk.l1 (((l1Cut_.length:Int)-(0:Int)).toNat+1) (0,l1Cut_)).bind fun r=>match r with
 | .inl list3=>(some (decide ((list3.length:Int)≤4)))
 | .inr r=>some r))
def l7Under (a:Str) (b:Str):Option (Bool):=
 ((bif (decide ((b.length:Int)>(a.length:Int))) then (need (decide (0≤(a.length:Int))&&decide ((a.length:Int)≤b.length)) (bif ((b.take (a.length:Int).toNat)==a) then (need (decide (0≤(a.length:Int))&&decide ((a.length:Int)<b.length)) (some (((b.getD (a.length:Int).toNat 0).toNat:Int)==47))) else
 (some false))) else
 (some false)).bind fun c=>
 (some c))
def hasPrefix0 (s:Str) (p:Str):Option (Bool):=
 ((bif (decide ((s.length:Int)≥(p.length:Int))) then (need (decide (0≤(p.length:Int))&&decide ((p.length:Int)≤s.length)) (some ((s.take (p.length:Int).toNat)==p))) else
 (some false)).bind fun c=>
 (some c))
def hasPrefix (s:Str) (p:Str):Option (Bool):=
 ((hasPrefix0 s p).bind fun HasPrefi=>
 (some HasPrefi))
def indexByteString (s:Str) (c:Int):Option (Int):=some (idxB s c)
def countString (s:Str) (c:Int):Option (Int):=some (cntB s c)
def indexByte0 (s:Str) (c:Int):Option (Int):=
 ((indexByteString s c).bind fun IndexByt=>
 (some IndexByt))
def index0S (s:Str):Option (Int):=
 ((some (([47]:Str)==s)).bind fun c=>
 (bif c then (some 0) else
 ((indexByte0 s 47).bind fun IndexByt=>
 (some IndexByt))))
def indexS (s:Str):Option (Int):=
 ((index0S s).bind fun Index=>
 (some Index))
def countS (s:Str):Option (Int):=
 ((countString s 47).bind fun CountStr=>
 (some CountStr))
def genSplitS.l0.step (again:(Str×Int×Int×List Str)→Option (Str×Int×List Str)):(Str×Int×Int×List Str)→Option (Str×Int×List Str):=fun (s2,n1,i,a)=>
 (bif (decide (i<n1)) then ((indexS s2).bind fun Index=>
 (bif (decide (Index<0)) then (some (s2,i,a)) else
 (need (decide (0≤(w64 (Index+0)))&&decide ((w64 (Index+0))≤s2.length)) (need (decide (0≤i)&&decide (i<a.length)) (need (decide (0≤(w64 (Index+1)))&&decide ((w64 (Index+1))≤s2.length)) (again ((s2.drop (w64 (Index+1)).toNat),n1,(w64 (i+1)),(a.set i.toNat (s2.take (w64 (Index+0)).toNat))))))))) else
 (some (s2,i,a)))
def genSplitS.l0:Nat→(Str×Int×Int×List Str)→Option (Str×Int×List Str):=loopN (genSplitS.l0.step)
theorem genSplitS.l0.succ (n:Nat) (t:(Str×Int×Int×List Str)):genSplitS.l0 (n+1) t=genSplitS.l0.step (genSplitS.l0 n) t:=rfl
def genSplitS (s:Str):Option (List Str):=
 ((((countS s).bind fun Count=>
 (some (s,(w64 (Count+1))))):Option (Str×Int)).bind fun (s1,n)=>
 (need (decide (0≤(minA n (w64 ((s1.length:Int)+1))))&&fits (minA n (w64 ((s1.length:Int)+1))).toNat) ((genSplitS.l0 (((w64 ((minA n (w64 ((s1.length:Int)+1)))-1))-(0:Int)).toNat+1) (s1,(w64 ((minA n (w64 ((s1.length:Int)+1)))-1)),0,(List.replicate (minA n (w64 ((s1.length:Int)+1))).toNat ([]:Str)))).bind fun (s3,i1,a1)=>
 (need (decide (0≤i1)&&decide (i1<a1.length)) (need (decide (0≤(w64 (i1+1)))&&decide ((w64 (i1+1))≤(a1.set i1.toNat s3).length)) (some (((a1.set i1.toNat s3).drop 0).take ((w64 (i1+1)).toNat))))))))
def splitS (s:Str):Option (List Str):=
 ((genSplitS s).bind fun genSplit=>
 (some genSplit))
def implNameOk.l0.step (again:(List Str×List Str×Int×Int)→Option ((List Str)⊕(Bool))):(List Str×List Str×Int×Int)→Option ((List Str)⊕(Bool)):=fun (parts,t,t1,t2)=>
 (bif (decide (t2<t1)) then (need (decide (0≤t2)&&decide (t2<t.length)) ((partOk (t.getD t2.toNat [])).bind fun partOk_=>
 (bif (!partOk_) then ((some false).map Sum.inr) else
 (again (parts,t,t1,(w64 (t2+1))))))) else
 (some (.inl parts)))
def implNameOk.l0:Nat→(List Str×List Str×Int×Int)→Option ((List Str)⊕(Bool)):=loopN (implNameOk.l0.step)
theorem implNameOk.l0.succ (n:Nat) (t:(List Str×List Str×Int×Int)):implNameOk.l0 (n+1) t=implNameOk.l0.step (implNameOk.l0 n) t:=rfl
def implNameOk (s:Str):Option (Bool):=
 ((splitS s).bind fun Split=>
 ((implNameOk.l0 (((Split.length:Int)-(0:Int)).toNat+1) (Split,Split,(Split.length:Int),0)).bind fun r=>match r with
 | .inl parts1=>(some (decide ((parts1.length:Int)≤4)))
 | .inr r=>some r))
def apart.l0.step (again:(List Str×Str×List Str×Int×Int×List Str×Int×Int)→Option ((List Str×List Str×Int×Int)⊕((Unit)⊕(Bool)))):(List Str×Str×List Str×Int×Int×List Str×Int×Int)→Option ((List Str×List Str×Int×Int)⊕((Unit)⊕(Bool))):=fun (names1,a,t3,t4,t5,t6,t7,t8)=>
 (bif (decide (t8<t7)) then (need (decide (0≤t8)&&decide (t8<t6.length)) ((bif (a==(t6.getD t8.toNat [])) then (some true) else
 (need (fits ((t6.getD t8.toNat []).length+([47]:Str).length)) ((hasPrefix a ((t6.getD t8.toNat [])++[47])).bind fun HasPrefi=>
 (bif HasPrefi then (some true) else
 (need (fits (a.length+([47]:Str).length)) ((hasPrefix (t6.getD t8.toNat []) (a++[47])).bind fun HasPrefi1=>
 (some HasPrefi1))))))).bind fun c=>
 (bif c then (((some false).map Sum.inr).map Sum.inr) else
 (again (names1,a,t3,t4,t5,t6,t7,(w64 (t8+1))))))) else
 (some (.inl (names1,t3,t4,t5))))
def apart.l0:Nat→(List Str×Str×List Str×Int×Int×List Str×Int×Int)→Option ((List Str×List Str×Int×Int)⊕((Unit)⊕(Bool))):=loopN (apart.l0.step)
theorem apart.l0.succ (n:Nat) (t:(List Str×Str×List Str×Int×Int×List Str×Int×Int)):apart.l0 (n+1) t=apart.l0.step (apart.l0 n) t:=rfl
def apart.l1.step (again:(List Str×List Str×Int×Int)→Option ((Unit)⊕(Bool))):(List Str×List Str×Int×Int)→Option ((Unit)⊕(Bool)):=fun (names,t,t1,t2)=>
 (bif (decide (t2<t1)) then (need (decide (0≤t2)&&decide (t2<t.length)) (need (decide (0≤t2)&&decide (t2≤names.length)) ((apart.l0 ((((names.take t2.toNat).length:Int)-(0:Int)).toNat+1) (names,(t.getD t2.toNat []),t,t1,t2,(names.take t2.toNat),((names.take t2.toNat).length:Int),0)).bind fun r=>match r with
 | .inl (names2,t9,t10,t11)=>(again (names2,t9,t10,(w64 (t11+1))))
 | .inr r=>some r))) else
 (some (.inl ())))
def apart.l1:Nat→(List Str×List Str×Int×Int)→Option ((Unit)⊕(Bool)):=loopN (apart.l1.step)
theorem apart.l1.succ (n:Nat) (t:(List Str×List Str×Int×Int)):apart.l1 (n+1) t=apart.l1.step (apart.l1 n) t:=rfl
def apart (xs:List Str):Option (Bool):=
 ((apart.l1 (((xs.length:Int)-(0:Int)).toNat+1) (xs,xs,(xs.length:Int),0)).bind fun r=>match r with
 | .inl _=>(some true)
 | .inr r=>some r)
def pieceOk (num:Int) (bits:Int):Option (Bool):=
 (((within bits 0 16).bind fun within_=>
 (bif within_ then (need (decide (0≤bits)) ((within num 0 (w64 ((ishl .i64 1 bits)-1))).bind fun within_1=>
 (some within_1))) else
 (some false))).bind fun c=>
 (some c))
def wPut.l0.step (again:(Int×Int×Int×Int×List Int)→Option (Int×List Int)):(Int×Int×Int×Int×List Int)→Option (Int×List Int):=fun (num1,t,t1,o,o1)=>
 (bif (decide (t1<t)) then (((bif ((o.tmod 8)==0) then (need (fits (o1.length+([0]:List (Int)).length)) (some (num1,t1,t,t1,o,(o1++[0])))) else
 (some (num1,t1,t,t1,o,o1))):Option (Int×Int×Int×Int×Int×List Int)).bind fun (num2,k,t2,t3,o2,o3)=>
 (need (decide (0≤(w64 (o2.tdiv 8)))&&decide ((w64 (o2.tdiv 8))<o3.length)) (need (decide (0≤k)) (need (decide (0≤(o2.tmod 8))) (need (decide (0≤(w64 (o2.tdiv 8)))&&decide ((w64 (o2.tdiv 8))<o3.length)) (again (num2,t2,(w64 (t3+1)),(w64 (o2+1)),(o3.set ((w64 (o2.tdiv 8)).toNat) (ior .u8 (o3.getD ((w64 (o2.tdiv 8)).toNat) 0) (IntKind.wrap .u8 (ishl .i64 (iand .i64 (ishr .i64 num2 k) 1) (o2.tmod 8)))))))))))) else
 (some (o,o1)))
def wPut.l0:Nat→(Int×Int×Int×Int×List Int)→Option (Int×List Int):=loopN (wPut.l0.step)
theorem wPut.l0.succ (n:Nat) (t:(Int×Int×Int×Int×List Int)):wPut.l0 (n+1) t=wPut.l0.step (wPut.l0 n) t:=rfl
def wPut (num:Int) (bits:Int) (many:Int) (b:List Int):Option (Int×List Int):=
 ((wPut.l0 ((bits-(0:Int)).toNat+1) (num,bits,0,many,b)).bind fun (o4,o5)=>
 (some (o4,o5)))
def wEven (many:Int) (b:List Int):Option (Int×List Int):=
 (some ((w64 (8*(b.length:Int))),b))
def rBit (s:Str) (at_:Int) (bad:Bool):Option (Int×Str×Int×Bool):=
 (bif (decide (at_≥(w64 (8*(s.length:Int))))) then (some (0,s,at_,true)) else
 (need (decide (0≤(w64 (at_.tdiv 8)))&&decide ((w64 (at_.tdiv 8))<s.length)) (need (decide (0≤(at_.tmod 8))) (some ((iand .i64 (ishr .i64 (w64 ((s.getD (w64 (at_.tdiv 8)).toNat 0).toNat:Int)) (at_.tmod 8)) 1),s,(w64 (at_+1)),bad)))))
def rGet.l0.step (again:(Int×Int×Int×Str×Int×Bool)→Option (Int×Str×Int×Bool)):(Int×Int×Int×Str×Int×Bool)→Option (Int×Str×Int×Bool):=fun (n,t,t1,o,o1,o2)=>
 (bif (decide (t1<t)) then ((rBit o o1 o2).bind fun (r,r1,r2,r3)=>
 (need (decide (0≤t1)) (again ((ior .i64 n (ishl .i64 r t1)),t,(w64 (t1+1)),r1,r2,r3)))) else
 (some (n,o,o1,o2)))
def rGet.l0:Nat→(Int×Int×Int×Str×Int×Bool)→Option (Int×Str×Int×Bool):=loopN (rGet.l0.step)
theorem rGet.l0.succ (n:Nat) (t:(Int×Int×Int×Str×Int×Bool)):rGet.l0 (n+1) t=rGet.l0.step (rGet.l0 n) t:=rfl
def rGet (bits:Int) (s:Str) (at_:Int) (bad:Bool):Option (Int×Str×Int×Bool):=
 ((rGet.l0 ((bits-(0:Int)).toNat+1) (0,bits,0,s,at_,bad)).bind fun (n1,o3,o4,o5)=>
 (some (n1,o3,o4,o5)))
def rEven.l0.step (again:(Str×Int×Bool)→Option (Str×Int×Bool)):(Str×Int×Bool)→Option (Str×Int×Bool):=fun (o,o1,o2)=>
 (bif ((o1.tmod 8) != 0) then ((rBit o o1 o2).bind fun (r,r1,r2,r3)=>
 (bif (r != 0) then (again (r1,r2,true)) else
 (again (r1,r2,r3)))) else
 (some (o,o1,o2)))
def rEven.l0:Nat→(Str×Int×Bool)→Option (Str×Int×Bool):=loopN (rEven.l0.step)
theorem rEven.l0.succ (n:Nat) (t:(Str×Int×Bool)):rEven.l0 (n+1) t=rEven.l0.step (rEven.l0 n) t:=rfl
def rEven (s:Str) (at_:Int) (bad:Bool):Option (Str×Int×Bool):=
 ((rEven.l0 (9) (s,at_,bad)).bind fun (o3,o4,o5)=>
 (some (o3,o4,o5)))
def bitsTurn.l0.step (again:(Int×Int×Int×Int)→Option (Int)):(Int×Int×Int×Int)→Option (Int):=fun (num1,out,t,t1)=>
 (bif (decide (t1<t)) then (need (decide (0≤t1)) (again (num1,(w64 ((w64 (2*out))+(iand .i64 (ishr .i64 num1 t1) 1))),t,(w64 (t1+1))))) else
 (some out))
def bitsTurn.l0:Nat→(Int×Int×Int×Int)→Option (Int):=loopN (bitsTurn.l0.step)
theorem bitsTurn.l0.succ (n:Nat) (t:(Int×Int×Int×Int)):bitsTurn.l0 (n+1) t=bitsTurn.l0.step (bitsTurn.l0 n) t:=rfl
def bitsTurn (num:Int) (bits:Int):Option (Int):=
 ((pieceOk num bits).bind fun pieceOk_=>
 (bif (!pieceOk_) then (some (-1)) else
 ((bitsTurn.l0 ((bits-(0:Int)).toNat+1) (num,0,bits,0)).bind fun out1=>
 (some out1))))
def crcUpdate.l0.step (again:(Int×Str×Int×Int)→Option (Int×Str×Int)):(Int×Str×Int×Int)→Option (Int×Str×Int):=fun (crc_2,text2,k1,t)=>
 (bif (decide (t<8)) then (again ((ixor .u32 (ishr .u32 crc_2 1) (IntKind.wrap .u32 (3988292384*(iand .u32 crc_2 1)))),text2,k1,(w64 (t+1)))) else
 (some (crc_2,text2,k1)))
def crcUpdate.l0:Nat→(Int×Str×Int×Int)→Option (Int×Str×Int):=loopN (crcUpdate.l0.step)
theorem crcUpdate.l0.succ (n:Nat) (t:(Int×Str×Int×Int)):crcUpdate.l0 (n+1) t=crcUpdate.l0.step (crcUpdate.l0 n) t:=rfl
def crcUpdate.l1.step (again:(Int×Str×Int)→Option (Int)):(Int×Str×Int)→Option (Int):=fun (crc_1,text1,k)=>
 (bif (decide (k<(text1.length:Int))) then (need (decide (0≤k)&&decide (k<text1.length)) ((crcUpdate.l0 ((8-(0:Int)).toNat+1) ((ixor .u32 crc_1 (IntKind.wrap .u32 ((text1.getD k.toNat 0).toNat:Int))),text1,k,0)).bind fun (crc_3,text3,k2)=>
 (again (crc_3,text3,(w64 (k2+1)))))) else
 (some crc_1))
def crcUpdate.l1:Nat→(Int×Str×Int)→Option (Int):=loopN (crcUpdate.l1.step)
theorem crcUpdate.l1.succ (n:Nat) (t:(Int×Str×Int)):crcUpdate.l1 (n+1) t=crcUpdate.l1.step (crcUpdate.l1 n) t:=rfl
def crcUpdate (crc_:Int) (text:Str):Option (Int):=
 ((crcUpdate.l1 (((text.length:Int)-(0:Int)).toNat+1) ((ixor .u32 (IntKind.max .u32) crc_),text,0)).bind fun crc_4=>
 (some (ixor .u32 (IntKind.max .u32) crc_4)))
def crc (text:Str):Option (Int):=
 ((crcUpdate 0 text).bind fun crcUpdat=>
 (some (w64 crcUpdat)))
def lensOk.l0.step (again:(Int×Int×Int×List Int×Int×Int)→Option ((Int×Int×Int)⊕(Bool))):(Int×Int×Int×List Int×Int×Int)→Option ((Int×Int×Int)⊕(Bool)):=fun (sum,many,last,t,t1,t2)=>
 (bif (decide (t2<t1)) then (need (decide (0≤t2)&&decide (t2<t.length)) ((within (t.getD t2.toNat 0) 0 15).bind fun within_=>
 (bif (!within_) then ((some false).map Sum.inr) else
 (bif (decide ((t.getD t2.toNat 0)>0)) then (need (decide (0≤(w64 (15-(t.getD t2.toNat 0))))) (again ((w64 (sum+(ishl .i64 1 (w64 (15-(t.getD t2.toNat 0)))))),(w64 (many+1)),(t.getD t2.toNat 0),t,t1,(w64 (t2+1))))) else
 (again (sum,many,last,t,t1,(w64 (t2+1)))))))) else
 (some (.inl (sum,many,last))))
def lensOk.l0:Nat→(Int×Int×Int×List Int×Int×Int)→Option ((Int×Int×Int)⊕(Bool)):=loopN (lensOk.l0.step)
theorem lensOk.l0.succ (n:Nat) (t:(Int×Int×Int×List Int×Int×Int)):lensOk.l0 (n+1) t=lensOk.l0.step (lensOk.l0 n) t:=rfl
def lensOk (lens:List Int):Option (Bool):=
 (bif (decide ((lens.length:Int)>300)) then (some false) else
 ((lensOk.l0 (((lens.length:Int)-(0:Int)).toNat+1) (0,0,0,lens,(lens.length:Int),0)).bind fun r=>match r with
 | .inl (sum1,many1,last1)=>((bif (sum1==32768) then (some true) else
 (bif (many1==1) then (some (last1==1)) else
 (some false))).bind fun c=>
 (some c))
 | .inr r=>some r))
def codes.l0.step (again:(List Int×Int×Int×List Int×Int×Int×List Int)→Option (List Int×Int×Int×List Int)):(List Int×Int×Int×List Int×Int×Int×List Int)→Option (List Int×Int×Int×List Int):=fun (lens2,next_1,l1,t,t1,t2,out1)=>
 (bif (decide (t2<t1)) then (need (decide (0≤t2)&&decide (t2<t.length)) (bif ((t.getD t2.toNat 0)==l1) then (need (decide (0≤t2)&&decide (t2<out1.length)) (again (lens2,(w64 (next_1+1)),l1,t,t1,(w64 (t2+1)),(out1.set t2.toNat next_1)))) else
 (again (lens2,next_1,l1,t,t1,(w64 (t2+1)),out1)))) else
 (some (lens2,next_1,l1,out1)))
def codes.l0:Nat→(List Int×Int×Int×List Int×Int×Int×List Int)→Option (List Int×Int×Int×List Int):=loopN (codes.l0.step)
theorem codes.l0.succ (n:Nat) (t:(List Int×Int×Int×List Int×Int×Int×List Int)):codes.l0 (n+1) t=codes.l0.step (codes.l0 n) t:=rfl
def codes.l1.step (again:(List Int×Int×Int×List Int)→Option (List Int)):(List Int×Int×Int×List Int)→Option (List Int):=fun (lens1,next_,l,out)=>
 (bif (decide (l≤15)) then ((codes.l0 (((lens1.length:Int)-(0:Int)).toNat+1) (lens1,next_,l,lens1,(lens1.length:Int),0,out)).bind fun (lens3,next_2,l2,out2)=>
 (again (lens3,(w64 (next_2*2)),(w64 (l2+1)),out2))) else
 (some out))
def codes.l1:Nat→(List Int×Int×Int×List Int)→Option (List Int):=loopN (codes.l1.step)
theorem codes.l1.succ (n:Nat) (t:(List Int×Int×Int×List Int)):codes.l1 (n+1) t=codes.l1.step (codes.l1 n) t:=rfl
def codes (lens:List Int):Option (List Int):=
 (need (decide (0≤(lens.length:Int))&&fits (lens.length:Int).toNat) ((codes.l1 ((15-(1:Int)).toNat+2) (lens,0,1,(List.replicate (lens.length:Int).toNat (0:Int)))).bind fun out3=>
 (some out3)))
def least.l0.step (again:((List (Int×List Int))×Int×(List (Int×List Int))×Int×Int×Int×List Int)→Option ((List (Int×List Int))×Int×Int×List Int)):((List (Int×List Int))×Int×(List (Int×List Int))×Int×Int×Int×List Int)→Option ((List (Int×List Int))×Int×Int×List Int):=fun (list1,at_,t,t1,t2,o,o1)=>
 (bif (decide (t2<t1)) then (need (decide (0≤t2)&&decide (t2<t.length)) ((need (decide (0≤at_)&&decide (at_<list1.length)) (bif (decide ((t.getD t2.toNat (0,[])).1<(list1.getD at_.toNat (0,[])).1)) then (some true) else
 (need (decide (0≤at_)&&decide (at_<list1.length)) (bif ((t.getD t2.toNat (0,[])).1==(list1.getD at_.toNat (0,[])).1) then (need (decide (0≤(0:Int))&&decide ((0:Int)<((t.getD t2.toNat (0,[])).2).length)) (need (decide (0≤at_)&&decide (at_<list1.length)) (need (decide (0≤(0:Int))&&decide ((0:Int)<((list1.getD at_.toNat (0,[])).2).length)) (some (decide ((((t.getD t2.toNat (0,[])).2).getD 0 0)<(((list1.getD at_.toNat (0,[])).2).getD 0 0))))))) else
 (some false))))).bind fun c=>
 (bif c then (again (list1,t2,t,t1,(w64 (t2+1)),o,o1)) else
 (again (list1,at_,t,t1,(w64 (t2+1)),o,o1))))) else
 (some (list1,at_,o,o1)))
def least.l0:Nat→((List (Int×List Int))×Int×(List (Int×List Int))×Int×Int×Int×List Int)→Option ((List (Int×List Int))×Int×Int×List Int):=loopN (least.l0.step)
theorem least.l0.succ (n:Nat) (t:((List (Int×List Int))×Int×(List (Int×List Int))×Int×Int×Int×List Int)):least.l0 (n+1) t=least.l0.step (least.l0 n) t:=rfl
def least (list:List (Int×List Int)):Option (Int×List Int×List (Int×List Int)):=
 ((least.l0 (((list.length:Int)-(0:Int)).toNat+1) (list,0,list,(list.length:Int),0,0,[])).bind fun (list2,at_1,o2,o3)=>
 (need (decide (0≤at_1)&&decide (at_1<list2.length)) (need (decide (0≤at_1)&&decide (at_1≤list2.length)) (need (fits (([]:List (Int×List Int)).length+(list2.take at_1.toNat).length)) (need (decide (0≤(w64 (at_1+1)))&&decide ((w64 (at_1+1))≤list2.length)) (need (fits (([]++(list2.take at_1.toNat)).length+(list2.drop (w64 (at_1+1)).toNat).length)) (some ((list2.getD at_1.toNat (0,[])).1,(list2.getD at_1.toNat (0,[])).2,(([]++(list2.take at_1.toNat))++(list2.drop (w64 (at_1+1)).toNat))))))))))
def depths.l1.step (again:(Int×Int×List Int×Int×List Int×Int×List Int×(List (Int×List Int))×List Int)→Option (List Int×Int×List Int×Int×List Int×(List (Int×List Int))×List Int)):(Int×Int×List Int×Int×List Int×Int×List Int×(List (Int×List Int))×List Int)→Option (List Int×Int×List Int×Int×List Int×(List (Int×List Int))×List Int):=fun (t3,t4,out3,o,o1,o2,o3,left,o4)=>
 (bif (decide (t4<t3)) then (need (decide (0≤t4)&&decide (t4<o4.length)) (need (decide (0≤(o4.getD t4.toNat 0))&&decide ((o4.getD t4.toNat 0)<out3.length)) (need (decide (0≤(o4.getD t4.toNat 0))&&decide ((o4.getD t4.toNat 0)<out3.length)) (need (decide (0≤(0:Int))&&decide ((0:Int)<o4.length)) (bif (decide ((o4.getD t4.toNat 0)<(o4.getD 0 0))) then (need (decide (0≤(0:Int))&&decide ((0:Int)<o4.length)) (need (decide (0≤(0:Int))&&decide ((0:Int)<o4.length)) (need (decide (0≤t4)&&decide (t4<(o4.set 0 (o4.getD t4.toNat 0)).length)) (again (t3,(w64 (t4+1)),(out3.set ((o4.getD t4.toNat 0).toNat) (w64 ((out3.getD ((o4.getD t4.toNat 0).toNat) 0)+1))),o,o1,o2,o3,left,((o4.set 0 (o4.getD t4.toNat 0)).set t4.toNat (o4.getD 0 0))))))) else
 (again (t3,(w64 (t4+1)),(out3.set ((o4.getD t4.toNat 0).toNat) (w64 ((out3.getD ((o4.getD t4.toNat 0).toNat) 0)+1))),o,o1,o2,o3,left,o4))))))) else
 (some (out3,o,o1,o2,o3,left,o4)))
def depths.l1:Nat→(Int×Int×List Int×Int×List Int×Int×List Int×(List (Int×List Int))×List Int)→Option (List Int×Int×List Int×Int×List Int×(List (Int×List Int))×List Int):=loopN (depths.l1.step)
theorem depths.l1.succ (n:Nat) (t:(Int×Int×List Int×Int×List Int×Int×List Int×(List (Int×List Int))×List Int)):depths.l1 (n+1) t=depths.l1.step (depths.l1 n) t:=rfl
def depths.l2.step (again:(List Int×List (Int×List Int))→Option (List Int)):(List Int×List (Int×List Int))→Option (List Int):=fun (out2,list2)=>
 (bif (decide ((list2.length:Int)>1)) then ((least list2).bind fun (r,r1,r2)=>
 ((least r2).bind fun (r3,r4,r5)=>
 (need (fits (([]:List (Int)).length+r1.length)) (need (fits (([]++r1).length+r4.length)) ((depths.l1 ((((([]++r1)++r4).length:Int)-(0:Int)).toNat+1) (((([]++r1)++r4).length:Int),0,out2,r,r1,r3,r4,r5,(([]++r1)++r4))).bind fun (out4,o5,o6,o7,o8,left1,syms)=>
 (need (fits (left1.length+([((w64 (o5+o7)),syms)]:List (Int×List Int)).length)) (again (out4,(left1++[((w64 (o5+o7)),syms)]))))))))) else
 (some out2))
def depths.l2:Nat→(List Int×List (Int×List Int))→Option (List Int):=loopN (depths.l2.step)
theorem depths.l2.succ (n:Nat) (t:(List Int×List (Int×List Int))):depths.l2 (n+1) t=depths.l2.step (depths.l2 n) t:=rfl
def depths.l0.step (again:(List Int×Int×Int×List Int×List (Int×List Int))→Option (List Int×List (Int×List Int))):(List Int×Int×Int×List Int×List (Int×List Int))→Option (List Int×List (Int×List Int)):=fun (t,t1,t2,out,list)=>
 (bif (decide (t2<t1)) then (need (decide (0≤t2)&&decide (t2<t.length)) (bif (decide ((t.getD t2.toNat 0)>0)) then (need (fits (list.length+([((t.getD t2.toNat 0),[t2])]:List (Int×List Int)).length)) (again (t,t1,(w64 (t2+1)),out,(list++[((t.getD t2.toNat 0),[t2])])))) else
 (again (t,t1,(w64 (t2+1)),out,list)))) else
 (some (out,list)))
def depths.l0:Nat→(List Int×Int×Int×List Int×List (Int×List Int))→Option (List Int×List (Int×List Int)):=loopN (depths.l0.step)
theorem depths.l0.succ (n:Nat) (t:(List Int×Int×Int×List Int×List (Int×List Int))):depths.l0 (n+1) t=depths.l0.step (depths.l0 n) t:=rfl
def depths (counts:List Int):Option (List Int):=
 (need (decide (0≤(counts.length:Int))&&fits (counts.length:Int).toNat) ((depths.l0 (((counts.length:Int)-(0:Int)).toNat+1) (counts,(counts.length:Int),0,(List.replicate (counts.length:Int).toNat (0:Int)),[])).bind fun (out1,list1)=>
 (bif ((list1.length:Int)==1) then (need (decide (0≤(0:Int))&&decide ((0:Int)<list1.length)) (need (decide (0≤(0:Int))&&decide ((0:Int)<((list1.getD 0 (0,[])).2).length)) (need (decide (0≤(((list1.getD 0 (0,[])).2).getD 0 0))&&decide ((((list1.getD 0 (0,[])).2).getD 0 0)<out1.length)) (some (out1.set ((((list1.getD 0 (0,[])).2).getD 0 0).toNat) 1))))) else
 ((depths.l2 (((list1.length:Int)-1).toNat+1) (out1,list1)).bind fun out5=>
 (some out5)))))
def lensOf.l2.step (again:(Int×Int×Int×List Int)→Option (Int×List Int)):(Int×Int×Int×List Int)→Option (Int×List Int):=fun (most6,t5,t6,now5)=>
 (bif (decide (t6<t5)) then (need (decide (0≤t6)&&decide (t6<now5.length)) (need (decide (0≤t6)&&decide (t6<now5.length)) (again (most6,t5,(w64 (t6+1)),(now5.set t6.toNat (w64 ((w64 ((now5.getD t6.toNat 0)+1)).tdiv 2))))))) else
 (some (most6,now5)))
def lensOf.l2:Nat→(Int×Int×Int×List Int)→Option (Int×List Int):=loopN (lensOf.l2.step)
theorem lensOf.l2.succ (n:Nat) (t:(Int×Int×Int×List Int)):lensOf.l2 (n+1) t=lensOf.l2.step (lensOf.l2 n) t:=rfl
def lensOf.l1.step (again:(Int×Int×Int×Int×List Int×List Int)→Option (Int×Int×List Int×List Int)):(Int×Int×Int×Int×List Int×List Int)→Option (Int×Int×List Int×List Int):=fun (most4,long,t3,t4,now3,o)=>
 (bif (decide (t4<t3)) then (need (decide (0≤t4)&&decide (t4<o.length)) (again (most4,(maxA long (o.getD t4.toNat 0)),t3,(w64 (t4+1)),now3,o))) else
 (some (most4,long,now3,o)))
def lensOf.l1:Nat→(Int×Int×Int×Int×List Int×List Int)→Option (Int×Int×List Int×List Int):=loopN (lensOf.l1.step)
theorem lensOf.l1.succ (n:Nat) (t:(Int×Int×Int×Int×List Int×List Int)):lensOf.l1 (n+1) t=lensOf.l1.step (lensOf.l1 n) t:=rfl
def lensOf.l3.step (again:(Int×List Int)→Option ((Unit)⊕(List Int))):(Int×List Int)→Option ((Unit)⊕(List Int)):=fun (most3,now2)=>
 ((depths now2).bind fun depths_=>
 ((lensOf.l1 (((depths_.length:Int)-(0:Int)).toNat+1) (most3,0,(depths_.length:Int),0,now2,depths_)).bind fun (most5,long1,now4,out)=>
 (bif (decide (long1≤most5)) then ((some out).map Sum.inr) else
 ((lensOf.l2 (((now4.length:Int)-(0:Int)).toNat+1) (most5,(now4.length:Int),0,now4)).bind fun (most7,now6)=>
 (again (most7,now6))))))
def lensOf.l3:Nat→(Int×List Int)→Option ((Unit)⊕(List Int)):=loopN (lensOf.l3.step)
theorem lensOf.l3.succ (n:Nat) (t:(Int×List Int)):lensOf.l3 (n+1) t=lensOf.l3.step (lensOf.l3 n) t:=rfl
def lensOf.l0.step (again:(Int×Int×List Int×Int×Int×List Int)→Option ((Int×Int×List Int)⊕(List Int))):(Int×Int×List Int×Int×Int×List Int)→Option ((Int×Int×List Int)⊕(List Int)):=fun (most1,many,t,t1,t2,now)=>
 (bif (decide (t2<t1)) then (need (decide (0≤t2)&&decide (t2<t.length)) ((within (t.getD t2.toNat 0) 0 100000).bind fun within_1=>
 (bif (!within_1) then ((some []).map Sum.inr) else
 (bif (decide ((t.getD t2.toNat 0)>0)) then (need (fits (now.length+([(t.getD t2.toNat 0)]:List (Int)).length)) (again (most1,(w64 (many+1)),t,t1,(w64 (t2+1)),(now++[(t.getD t2.toNat 0)])))) else
 (need (fits (now.length+([(t.getD t2.toNat 0)]:List (Int)).length)) (again (most1,many,t,t1,(w64 (t2+1)),(now++[(t.getD t2.toNat 0)])))))))) else
 (some (.inl (most1,many,now))))
def lensOf.l0:Nat→(Int×Int×List Int×Int×Int×List Int)→Option ((Int×Int×List Int)⊕(List Int)):=loopN (lensOf.l0.step)
theorem lensOf.l0.succ (n:Nat) (t:(Int×Int×List Int×Int×Int×List Int)):lensOf.l0 (n+1) t=lensOf.l0.step (lensOf.l0 n) t:=rfl
def lensOf (counts:List Int) (most:Int):Option (List Int):=
 ((bif (decide ((counts.length:Int)>300)) then (some true) else
 ((within most 1 15).bind fun within_=>
 (some (!within_)))).bind fun c=>
 (bif c then (some []) else
 ((lensOf.l0 (((counts.length:Int)-(0:Int)).toNat+1) (most,0,counts,(counts.length:Int),0,[])).bind fun r=>match r with
 | .inl (most2,many1,now1)=>(need (decide (0≤(w64 (most2-1)))) ((within many1 1 (ishl .i64 1 (w64 (most2-1)))).bind fun within_2=>
 (bif (!within_2) then (some []) else
 ((lensOf.l3 (100000) (most2,now1)).bind fun r=>match r with
 | .inl _=>none
 | .inr r=>some r))))
 | .inr r=>some r)))
def bookOf.l0.step (again:(List Int×Int×Int×(List ((Int×Int)×Int))×List Int)→Option (List ((Int×Int)×Int))):(List Int×Int×Int×(List ((Int×Int)×Int))×List Int)→Option (List ((Int×Int)×Int)):=fun (lens1,t,t1,o,o1)=>
 (bif (decide (t1<t)) then (need (decide (0≤t1)&&decide (t1<o1.length)) (need (decide (0≤t1)&&decide (t1<lens1.length)) (bif (decide ((lens1.getD t1.toNat 0)>0)) then (need (decide (0≤t1)&&decide (t1<lens1.length)) (again (lens1,t,(w64 (t1+1)),(mapSet [.int .i64,.int .i64] [.int .i64] o ((o1.getD t1.toNat 0),(lens1.getD t1.toNat 0)) t1),o1))) else
 (again (lens1,t,(w64 (t1+1)),o,o1))))) else
 (some o))
def bookOf.l0:Nat→(List Int×Int×Int×(List ((Int×Int)×Int))×List Int)→Option (List ((Int×Int)×Int)):=loopN (bookOf.l0.step)
theorem bookOf.l0.succ (n:Nat) (t:(List Int×Int×Int×(List ((Int×Int)×Int))×List Int)):bookOf.l0 (n+1) t=bookOf.l0.step (bookOf.l0 n) t:=rfl
def bookOf (lens:List Int):Option (List ((Int×Int)×Int)):=
 ((codes lens).bind fun codes_=>
 ((bookOf.l0 (((codes_.length:Int)-(0:Int)).toNat+1) (lens,(codes_.length:Int),0,[],codes_)).bind fun o2=>
 (some o2)))
def rSymbol.l0.step (again:(Int×Int×Str×Int×Bool×List ((Int×Int)×Int))→Option ((Str×Int×Bool×List ((Int×Int)×Int))⊕(Int×Str×Int×Bool×List ((Int×Int)×Int)))):(Int×Int×Str×Int×Bool×List ((Int×Int)×Int))→Option ((Str×Int×Bool×List ((Int×Int)×Int))⊕(Int×Str×Int×Bool×List ((Int×Int)×Int))):=fun (code_,l,o,o1,o2,o3)=>
 (bif (decide (l≤15)) then ((rBit o o1 o2).bind fun (r,r1,r2,r3)=>
 ((bif (mapGet [.int .i64,.int .i64] [.int .i64] o3 ((w64 ((w64 (2*code_))+r)),l)).isSome then (some (!r3)) else
 (some false)).bind fun c=>
 (bif c then ((some (((mapGet [.int .i64,.int .i64] [.int .i64] o3 ((w64 ((w64 (2*code_))+r)),l)).getD 0),r1,r2,r3,o3)).map Sum.inr) else
 (again ((w64 ((w64 (2*code_))+r)),(w64 (l+1)),r1,r2,r3,o3))))) else
 (some (.inl (o,o1,o2,o3))))
def rSymbol.l0:Nat→(Int×Int×Str×Int×Bool×List ((Int×Int)×Int))→Option ((Str×Int×Bool×List ((Int×Int)×Int))⊕(Int×Str×Int×Bool×List ((Int×Int)×Int))):=loopN (rSymbol.l0.step)
theorem rSymbol.l0.succ (n:Nat) (t:(Int×Int×Str×Int×Bool×List ((Int×Int)×Int))):rSymbol.l0 (n+1) t=rSymbol.l0.step (rSymbol.l0 n) t:=rfl
def rSymbol (s:Str) (at_:Int) (bad:Bool) (book:List ((Int×Int)×Int)):Option (Int×Str×Int×Bool×List ((Int×Int)×Int)):=
 ((rSymbol.l0 ((15-(1:Int)).toNat+2) (0,1,s,at_,bad,book)).bind fun r=>match r with
 | .inl (o4,o5,o6,o7)=>(some (0,o4,o5,true,o7))
 | .inr r=>some r)
def add.l0.step (again:(Int×Int×List Int×Int×Int×Int)→Option (List Int)):(Int×Int×List Int×Int×Int×Int)→Option (List Int):=fun (t,t1,out1,o,o1,o2)=>
 (bif (decide (t1<t)) then (need (decide (0≤(w64 ((out1.length:Int)-o2)))&&decide ((w64 ((out1.length:Int)-o2))<out1.length)) (need (fits (out1.length+([(out1.getD ((w64 ((out1.length:Int)-o2)).toNat) 0)]:List (Int)).length)) (again (t,(w64 (t1+1)),(out1++[(out1.getD ((w64 ((out1.length:Int)-o2)).toNat) 0)]),o,o1,o2)))) else
 (some out1))
def add.l0:Nat→(Int×Int×List Int×Int×Int×Int)→Option (List Int):=loopN (add.l0.step)
theorem add.l0.succ (n:Nat) (t:(Int×Int×List Int×Int×Int×Int)):add.l0 (n+1) t=add.l0.step (add.l0 n) t:=rfl
def add (byte:Int) (long:Int) (back:Int) (out:List Int):Option (Bool×List Int):=
 (bif (long==0) then ((bif (back != 0) then (some true) else
 ((within byte 0 255).bind fun within_=>
 (some (!within_)))).bind fun c=>
 (bif c then (some (false,[])) else
 (need (fits (out.length+([(IntKind.wrap .u8 byte)]:List (Int)).length)) (some (true,(out++[(IntKind.wrap .u8 byte)])))))) else
 ((bif (byte != 0) then (some true) else
 ((within long 3 60).bind fun within_1=>
 (bif (!within_1) then (some true) else
 ((within back 1 (minA 250 (out.length:Int))).bind fun within_2=>
 (some (!within_2)))))).bind fun c1=>
 (bif c1 then (some (false,[])) else
 ((add.l0 ((long-(0:Int)).toNat+1) (long,0,out,byte,long,back)).bind fun out2=>
 (some (true,out2))))))
def tokensOf.l0.step (again:(Str×Int×Int×Int×(List (Int×Int×Int))×Int×Int×Int)→Option (Str×Int×Int×Int×(List (Int×Int×Int))×Int×Int×Int)):(Str×Int×Int×Int×(List (Int×Int×Int))×Int×Int×Int)→Option (Str×Int×Int×Int×(List (Int×Int×Int))×Int×Int×Int):=fun (text3,at_2,back1,n,out2,o3,o4,o5)=>
 ((bif (decide (n<60)) then (bif (decide ((w64 (at_2+n))<(text3.length:Int))) then (need (decide (0≤(w64 (at_2+n)))&&decide ((w64 (at_2+n))<text3.length)) (need (decide (0≤(w64 ((w64 (at_2+n))-back1)))&&decide ((w64 ((w64 (at_2+n))-back1))<text3.length)) (some (((text3.getD (w64 (at_2+n)).toNat 0).toNat:Int)==((text3.getD (w64 ((w64 (at_2+n))-back1)).toNat 0).toNat:Int))))) else
 (some false)) else
 (some false)).bind fun c=>
 (bif c then (again (text3,at_2,back1,(w64 (n+1)),out2,o3,o4,o5)) else
 (some (text3,at_2,back1,n,out2,o3,o4,o5))))
def tokensOf.l0:Nat→(Str×Int×Int×Int×(List (Int×Int×Int))×Int×Int×Int)→Option (Str×Int×Int×Int×(List (Int×Int×Int))×Int×Int×Int):=loopN (tokensOf.l0.step)
theorem tokensOf.l0.succ (n:Nat) (t:(Str×Int×Int×Int×(List (Int×Int×Int))×Int×Int×Int)):tokensOf.l0 (n+1) t=tokensOf.l0.step (tokensOf.l0 n) t:=rfl
def tokensOf.l1.step (again:(Str×Int×Int×(List (Int×Int×Int))×Int×Int×Int)→Option (Str×Int×(List (Int×Int×Int))×Int×Int×Int)):(Str×Int×Int×(List (Int×Int×Int))×Int×Int×Int)→Option (Str×Int×(List (Int×Int×Int))×Int×Int×Int):=fun (text2,at_1,back,out1,o,o1,o2)=>
 (bif (decide (back≤(minA 250 at_1))) then ((tokensOf.l0 ((60-(0:Int)).toNat+1) (text2,at_1,back,0,out1,o,o1,o2)).bind fun (text4,at_3,back2,n1,out3,o6,o7,o8)=>
 ((bif (decide (n1≥3)) then (some (decide (n1>o7))) else
 (some false)).bind fun c1=>
 (bif c1 then (again (text4,at_3,(w64 (back2+1)),out3,0,n1,back2)) else
 (again (text4,at_3,(w64 (back2+1)),out3,o6,o7,o8))))) else
 (some (text2,at_1,out1,o,o1,o2)))
def tokensOf.l1:Nat→(Str×Int×Int×(List (Int×Int×Int))×Int×Int×Int)→Option (Str×Int×(List (Int×Int×Int))×Int×Int×Int):=loopN (tokensOf.l1.step)
theorem tokensOf.l1.succ (n:Nat) (t:(Str×Int×Int×(List (Int×Int×Int))×Int×Int×Int)):tokensOf.l1 (n+1) t=tokensOf.l1.step (tokensOf.l1 n) t:=rfl
def tokensOf.l2.step (again:(Str×Int×List (Int×Int×Int))→Option (List (Int×Int×Int))):(Str×Int×List (Int×Int×Int))→Option (List (Int×Int×Int)):=fun (text1,at_,out)=>
 (bif (decide (at_<(text1.length:Int))) then (need (decide (0≤at_)&&decide (at_<text1.length)) ((tokensOf.l1 (((minA 250 at_)-(1:Int)).toNat+2) (text1,at_,1,out,(w64 ((text1.getD at_.toNat 0).toNat:Int)),0,0)).bind fun (text5,at_4,out4,o9,o10,o11)=>
 (need (fits (out4.length+([(o9,o10,o11)]:List (Int×Int×Int)).length)) (again (text5,(w64 (at_4+(maxA o10 1))),(out4++[(o9,o10,o11)])))))) else
 (some out))
def tokensOf.l2:Nat→(Str×Int×List (Int×Int×Int))→Option (List (Int×Int×Int)):=loopN (tokensOf.l2.step)
theorem tokensOf.l2.succ (n:Nat) (t:(Str×Int×List (Int×Int×Int))):tokensOf.l2 (n+1) t=tokensOf.l2.step (tokensOf.l2 n) t:=rfl
def tokensOf (text:Str):Option (List (Int×Int×Int)):=
 (bif (decide ((text.length:Int)>300)) then (some []) else
 ((tokensOf.l2 (((text.length:Int)-(0:Int)).toNat+1) (text,0,[])).bind fun out5=>
 (some out5)))
def ladderOf.l0.step (again:(Int×Int×Int×Int×Int×List Int×List Int×List Int×List Int)→Option (List Int×List Int×List Int×List Int)):(Int×Int×Int×Int×Int×List Int×List Int×List Int×List Int)→Option (List Int×List Int×List Int×List Int):=fun (from_1,plain1,each1,t,t1,o,o1,o2,o3)=>
 (bif (decide (t1<t)) then (((bif (decide (t1≥plain1)) then (need (each1 != 0) (some (from_1,plain1,each1,(w64 ((w64 ((w64 (t1-plain1)).tdiv each1))+1)),t,t1,o,o1,o2,o3))) else
 (some (from_1,plain1,each1,0,t,t1,o,o1,o2,o3))):Option (Int×Int×Int×Int×Int×Int×List Int×List Int×List Int×List Int)).bind fun (from_2,plain2,each2,bits,t2,t3,o4,o5,o6,o7)=>
 (need (fits (o6.length+([from_2]:List (Int)).length)) (need (fits (o7.length+([bits]:List (Int)).length)) (need (decide (0≤bits)) (again ((w64 (from_2+(ishl .i64 1 bits))),plain2,each2,t2,(w64 (t3+1)),o4,o5,(o6++[from_2]),(o7++[bits]))))))) else
 (some (o,o1,o2,o3)))
def ladderOf.l0:Nat→(Int×Int×Int×Int×Int×List Int×List Int×List Int×List Int)→Option (List Int×List Int×List Int×List Int):=loopN (ladderOf.l0.step)
def ladderOf (from_:Int) (many:Int) (plain:Int) (each:Int):Option (List Int×List Int):=
 ((ladderOf.l0 ((many-(0:Int)).toNat+1) (from_,plain,each,many,0,[],[],[],[])).bind fun (o8,o9,o10,o11)=>
 (some (o10,o11)))
def longsOf:Option (List Int×List Int):=
 ((ladderOf 3 28 8 4).bind fun (r,r1)=>
 (some (r,r1)))
def backsOf:Option (List Int×List Int):=
 ((ladderOf 1 30 4 2).bind fun (r,r1)=>
 (some (r,r1)))
def ladFind.l0.step (again:(Int×Int×List Int×List Int)→Option (Int)):(Int×Int×List Int×List Int)→Option (Int):=fun (n1,k,o,o1)=>
 (need (decide (0≤k)&&decide (k<o.length)) (bif (decide ((o.getD k.toNat 0)>n1)) then (again (n1,(w64 (k-1)),o,o1)) else
 (some k)))
def ladFind.l0:Nat→(Int×Int×List Int×List Int)→Option (Int):=loopN (ladFind.l0.step)
def ladFind (first:List Int) (bits:List Int) (n:Int):Option (Int):=
 ((ladFind.l0 ((w64 ((first.length:Int)-1)).toNat+1) (n,(w64 ((first.length:Int)-1)),first,bits)).bind fun k1=>
 (some k1))
def fixedLens.l1.step (again:(Int×Int×List Int×List Int)→Option (List Int×List Int)):(Int×Int×List Int×List Int)→Option (List Int×List Int):=fun (t2,t3,lit2,dist)=>
 (bif (decide (t3<t2)) then (need (decide (0≤t3)&&decide (t3<dist.length)) (again (t2,(w64 (t3+1)),lit2,(dist.set t3.toNat 5)))) else
 (some (lit2,dist)))
def fixedLens.l1:Nat→(Int×Int×List Int×List Int)→Option (List Int×List Int):=loopN (fixedLens.l1.step)
def fixedLens.l0.step (again:(Int×Int×List Int)→Option (List Int)):(Int×Int×List Int)→Option (List Int):=fun (t,t1,lit)=>
 (bif (decide (t1<t)) then ((bif (decide (t1<144)) then (some true) else
 (some (decide (t1≥280)))).bind fun c=>
 (bif c then (need (decide (0≤t1)&&decide (t1<lit.length)) (again (t,(w64 (t1+1)),(lit.set t1.toNat 8)))) else
 (bif (decide (t1<256)) then (need (decide (0≤t1)&&decide (t1<lit.length)) (again (t,(w64 (t1+1)),(lit.set t1.toNat 9)))) else
 (need (decide (0≤t1)&&decide (t1<lit.length)) (again (t,(w64 (t1+1)),(lit.set t1.toNat 7))))))) else
 (some lit))
def fixedLens.l0:Nat→(Int×Int×List Int)→Option (List Int):=loopN (fixedLens.l0.step)
def fixedLens:Option (List Int×List Int):=
 (need (decide (0≤288)&&fits 288) ((fixedLens.l0 ((((List.replicate 288 (0:Int)).length:Int)-(0:Int)).toNat+1) (((List.replicate 288 (0:Int)).length:Int),0,(List.replicate 288 (0:Int)))).bind fun lit1=>
 (need (decide (0≤32)&&fits 32) ((fixedLens.l1 ((((List.replicate 32 (0:Int)).length:Int)-(0:Int)).toNat+1) (((List.replicate 32 (0:Int)).length:Int),0,lit1,(List.replicate 32 (0:Int)))).bind fun (lit3,dist1)=>
 (some (lit3,dist1))))))
def storePut (text:Str):Option (Str):=
 (bif (decide ((text.length:Int)>300)) then (some []) else
 ((wPut 1 3 0 []).bind fun (r,r1)=>
 ((wEven r r1).bind fun (r2,r3)=>
 ((wPut (text.length:Int) 16 r2 r3).bind fun (r4,r5)=>
 ((wPut (w64 (65535-(text.length:Int))) 16 r4 r5).bind fun (r6,r7)=>
 (need (fits ((toBytes r7).length+text.length)) (some ((toBytes r7)++text))))))))
def wCode (lens:List Int) (all:List Int) (s:Int) (many:Int) (b:List Int):Option (Int×List Int):=
 (need (decide (0≤s)&&decide (s<all.length)) (need (decide (0≤s)&&decide (s<lens.length)) ((bitsTurn (all.getD s.toNat 0) (lens.getD s.toNat 0)).bind fun BitsTurn=>
 (need (decide (0≤s)&&decide (s<lens.length)) ((wPut BitsTurn (lens.getD s.toNat 0) many b).bind fun (r,r1)=>
 (some (r,r1)))))))
def wTokens.l0.step (again:(List Int×List Int×(List (Int×Int×Int))×Int×Int×Int×List Int×List Int×List Int)→Option (List Int×Int×List Int×List Int)):(List Int×List Int×(List (Int×Int×Int))×Int×Int×Int×List Int×List Int×List Int)→Option (List Int×Int×List Int×List Int):=fun (lit1,dist1,t,t1,t2,o,a,b1,o1)=>
 (bif (decide (t2<t1)) then (need (decide (0≤t2)&&decide (t2<t.length)) (bif ((t.getD t2.toNat (0,0,0)).2.1==0) then ((wCode lit1 a ((t.getD t2.toNat (0,0,0)).1) o o1).bind fun (r,r1)=>
 (again (lit1,dist1,t,t1,(w64 (t2+1)),r,a,b1,r1))) else
 ((longsOf).bind fun (r2,r3)=>
 ((ladFind r2 r3 ((t.getD t2.toNat (0,0,0)).2.1)).bind fun find_=>
 ((wCode lit1 a (w64 (257+find_)) o o1).bind fun (r4,r5)=>
 ((longsOf).bind fun (r6,r7)=>
 (need (decide (0≤find_)&&decide (find_<r6.length)) ((longsOf).bind fun (r8,r9)=>
 (need (decide (0≤find_)&&decide (find_<r9.length)) ((wPut (w64 ((t.getD t2.toNat (0,0,0)).2.1-(r6.getD find_.toNat 0))) (r9.getD find_.toNat 0) r4 r5).bind fun (r10,r11)=>
 ((backsOf).bind fun (r12,r13)=>
 ((ladFind r12 r13 ((t.getD t2.toNat (0,0,0)).2.2)).bind fun find_1=>
 ((wCode dist1 b1 find_1 r10 r11).bind fun (r14,r15)=>
 ((backsOf).bind fun (r16,r17)=>
 (need (decide (0≤find_1)&&decide (find_1<r16.length)) ((backsOf).bind fun (r18,r19)=>
 (need (decide (0≤find_1)&&decide (find_1<r19.length)) ((wPut (w64 ((t.getD t2.toNat (0,0,0)).2.2-(r16.getD find_1.toNat 0))) (r19.getD find_1.toNat 0) r14 r15).bind fun (r20,r21)=>
 (again (lit1,dist1,t,t1,(w64 (t2+1)),r20,a,b1,r21)))))))))))))))))))) else
 (some (lit1,o,a,o1)))
def wTokens.l0:Nat→(List Int×List Int×(List (Int×Int×Int))×Int×Int×Int×List Int×List Int×List Int)→Option (List Int×Int×List Int×List Int):=loopN (wTokens.l0.step)
theorem wTokens.l0.succ (n:Nat) (t:(List Int×List Int×(List (Int×Int×Int))×Int×Int×Int×List Int×List Int×List Int)):wTokens.l0 (n+1) t=wTokens.l0.step (wTokens.l0 n) t:=rfl
def wTokens (list:List (Int×Int×Int)) (lit:List Int) (dist:List Int) (many:Int) (b:List Int):Option (Int×List Int):=
 ((codes lit).bind fun codes_=>
 ((codes dist).bind fun codes_1=>
 ((wTokens.l0 (((list.length:Int)-(0:Int)).toNat+1) (lit,dist,list,(list.length:Int),0,many,codes_,codes_1,b)).bind fun (lit2,o2,a1,o3)=>
 ((wCode lit2 a1 256 o2 o3).bind fun (r22,r23)=>
 (some (r22,r23))))))
def fixedPut (text:Str):Option (Str):=
 (bif (decide ((text.length:Int)>300)) then (some []) else
 ((wPut 1 1 0 []).bind fun (r,r1)=>
 ((wPut 1 2 r r1).bind fun (r2,r3)=>
 ((fixedLens).bind fun (r4,r5)=>
 ((tokensOf text).bind fun TokensOf=>
 ((wTokens TokensOf r4 r5 r2 r3).bind fun (r6,r7)=>
 (some (toBytes r7))))))))
def trimmed.l0.step (again:(List Int×Int×Int)→Option (List Int×Int)):(List Int×Int×Int)→Option (List Int×Int):=fun (lens1,least_1,n)=>
 ((bif (decide (n>least_1)) then (need (decide (0≤(w64 (n-1)))&&decide ((w64 (n-1))<lens1.length)) (some ((lens1.getD (w64 (n-1)).toNat 0)==0))) else
 (some false)).bind fun c=>
 (bif c then (again (lens1,least_1,(w64 (n-1)))) else
 (some (lens1,n))))
def trimmed.l0:Nat→(List Int×Int×Int)→Option (List Int×Int):=loopN (trimmed.l0.step)
theorem trimmed.l0.succ (n:Nat) (t:(List Int×Int×Int)):trimmed.l0 (n+1) t=trimmed.l0.step (trimmed.l0 n) t:=rfl
def trimmed (lens:List Int) (least_:Int):Option (List Int):=
 ((trimmed.l0 (((lens.length:Int)-least_).toNat+1) (lens,least_,(lens.length:Int))).bind fun (lens2,n1)=>
 (need (decide (0≤n1)&&decide (n1≤lens2.length)) (some (lens2.take n1.toNat))))
def ownPut.l3.step (again:(List Int×List Int×Int×Int×(List (Int×Int×Int))×List Int×Int×List Int×List Int×List Int)→Option (List Int×List Int×(List (Int×Int×Int))×Int×List Int)):(List Int×List Int×Int×Int×(List (Int×Int×Int))×List Int×Int×List Int×List Int×List Int)→Option (List Int×List Int×(List (Int×Int×Int))×Int×List Int):=fun (lit4,dist4,t7,t8,list6,meta_2,o6,m,o7,o8)=>
 (bif (decide (t8<t7)) then (need (decide (0≤t8)&&decide (t8<o7.length)) ((wCode meta_2 m (o7.getD t8.toNat 0) o6 o8).bind fun (r16,r17)=>
 (again (lit4,dist4,t7,(w64 (t8+1)),list6,meta_2,r16,m,o7,r17)))) else
 (some (lit4,dist4,list6,o6,o8)))
def ownPut.l3:Nat→(List Int×List Int×Int×Int×(List (Int×Int×Int))×List Int×Int×List Int×List Int×List Int)→Option (List Int×List Int×(List (Int×Int×Int))×Int×List Int):=loopN (ownPut.l3.step)
theorem ownPut.l3.succ (n:Nat) (t:(List Int×List Int×Int×Int×(List (Int×Int×Int))×List Int×Int×List Int×List Int×List Int)):ownPut.l3 (n+1) t=ownPut.l3.step (ownPut.l3 n) t:=rfl
def ownPut.l2.step (again:(List Int×List Int×List Int×Int×Int×(List (Int×Int×Int))×List Int×List Int×Int×List Int)→Option (List Int×List Int×(List (Int×Int×Int))×List Int×List Int×Int×List Int)):(List Int×List Int×List Int×Int×Int×(List (Int×Int×Int))×List Int×List Int×Int×List Int)→Option (List Int×List Int×(List (Int×Int×Int))×List Int×List Int×Int×List Int):=fun (lit2,dist2,t4,t5,t6,list4,all1,meta_,o2,o3)=>
 (bif (decide (t6<t5)) then (need (decide (0≤t6)&&decide (t6<t4.length)) (need (decide (0≤(t4.getD t6.toNat 0))&&decide ((t4.getD t6.toNat 0)<meta_.length)) ((wPut (meta_.getD ((t4.getD t6.toNat 0).toNat) 0) 3 o2 o3).bind fun (r14,r15)=>
 (again (lit2,dist2,t4,t5,(w64 (t6+1)),list4,all1,meta_,r14,r15))))) else
 (some (lit2,dist2,list4,all1,meta_,o2,o3)))
def ownPut.l2:Nat→(List Int×List Int×List Int×Int×Int×(List (Int×Int×Int))×List Int×List Int×Int×List Int)→Option (List Int×List Int×(List (Int×Int×Int))×List Int×List Int×Int×List Int):=loopN (ownPut.l2.step)
theorem ownPut.l2.succ (n:Nat) (t:(List Int×List Int×List Int×Int×Int×(List (Int×Int×Int))×List Int×List Int×Int×List Int)):ownPut.l2 (n+1) t=ownPut.l2.step (ownPut.l2 n) t:=rfl
def ownPut.l1.step (again:(List Int×List Int×Int×Int×(List (Int×Int×Int))×List Int×List Int)→Option (List Int×List Int×(List (Int×Int×Int))×List Int×List Int)):(List Int×List Int×Int×Int×(List (Int×Int×Int))×List Int×List Int)→Option (List Int×List Int×(List (Int×Int×Int))×List Int×List Int):=fun (lit,dist,t2,t3,list2,o1,c)=>
 (bif (decide (t3<t2)) then (need (decide (0≤t3)&&decide (t3<o1.length)) (need (decide (0≤(o1.getD t3.toNat 0))&&decide ((o1.getD t3.toNat 0)<c.length)) (need (decide (0≤(o1.getD t3.toNat 0))&&decide ((o1.getD t3.toNat 0)<c.length)) (again (lit,dist,t2,(w64 (t3+1)),list2,o1,(c.set ((o1.getD t3.toNat 0).toNat) (w64 ((c.getD ((o1.getD t3.toNat 0).toNat) 0)+1)))))))) else
 (some (lit,dist,list2,o1,c)))
def ownPut.l1:Nat→(List Int×List Int×Int×Int×(List (Int×Int×Int))×List Int×List Int)→Option (List Int×List Int×(List (Int×Int×Int))×List Int×List Int):=loopN (ownPut.l1.step)
theorem ownPut.l1.succ (n:Nat) (t:(List Int×List Int×Int×Int×(List (Int×Int×Int))×List Int×List Int)):ownPut.l1 (n+1) t=ownPut.l1.step (ownPut.l1 n) t:=rfl
def ownPut.l0.step (again:(Bool×Int×Int×(List (Int×Int×Int))×List Int×List Int)→Option (Bool×(List (Int×Int×Int))×List Int×List Int)):(Bool×Int×Int×(List (Int×Int×Int))×List Int×List Int)→Option (Bool×(List (Int×Int×Int))×List Int×List Int):=fun (none_,t,t1,o,a,b)=>
 (bif (decide (t1<t)) then (need (decide (0≤t1)&&decide (t1<o.length)) (bif ((o.getD t1.toNat (0,0,0)).2.1==0) then (need (decide (0≤(o.getD t1.toNat (0,0,0)).1)&&decide ((o.getD t1.toNat (0,0,0)).1<a.length)) (need (decide (0≤(o.getD t1.toNat (0,0,0)).1)&&decide ((o.getD t1.toNat (0,0,0)).1<a.length)) (again (none_,t,(w64 (t1+1)),o,(a.set (((o.getD t1.toNat (0,0,0)).1).toNat) (w64 ((a.getD (((o.getD t1.toNat (0,0,0)).1).toNat) 0)+1))),b)))) else
 ((longsOf).bind fun (r,r1)=>
 ((ladFind r r1 ((o.getD t1.toNat (0,0,0)).2.1)).bind fun find_=>
 (need (decide (0≤(w64 (257+find_)))&&decide ((w64 (257+find_))<a.length)) (need (decide (0≤(w64 (257+find_)))&&decide ((w64 (257+find_))<a.length)) ((backsOf).bind fun (r2,r3)=>
 ((ladFind r2 r3 ((o.getD t1.toNat (0,0,0)).2.2)).bind fun find_1=>
 (need (decide (0≤find_1)&&decide (find_1<b.length)) (need (decide (0≤find_1)&&decide (find_1<b.length)) (again (false,t,(w64 (t1+1)),o,(a.set ((w64 (257+find_)).toNat) (w64 ((a.getD ((w64 (257+find_)).toNat) 0)+1))),(b.set find_1.toNat (w64 ((b.getD find_1.toNat 0)+1))))))))))))))) else
 (some (none_,o,a,b)))
def ownPut.l0:Nat→(Bool×Int×Int×(List (Int×Int×Int))×List Int×List Int)→Option (Bool×(List (Int×Int×Int))×List Int×List Int):=loopN (ownPut.l0.step)
theorem ownPut.l0.succ (n:Nat) (t:(Bool×Int×Int×(List (Int×Int×Int))×List Int×List Int)):ownPut.l0 (n+1) t=ownPut.l0.step (ownPut.l0 n) t:=rfl
def ownPut (text:Str):Option (Str):=
 (bif (decide ((text.length:Int)>300)) then (some []) else
 ((tokensOf text).bind fun TokensOf=>
 (need (decide (0≤286)&&fits 286) (need (decide (0≤30)&&fits 30) (need (decide (0≤(256:Int))&&decide ((256:Int)<(List.replicate 286 (0:Int)).length)) ((ownPut.l0 (((TokensOf.length:Int)-(0:Int)).toNat+1) (true,(TokensOf.length:Int),0,TokensOf,((List.replicate 286 (0:Int)).set 256 1),(List.replicate 30 (0:Int)))).bind fun (none_1,list,a1,b1)=>
 (((bif none_1 then (need (decide (0≤(0:Int))&&decide ((0:Int)<b1.length)) (some (list,a1,(b1.set 0 1)))) else
 (some (list,a1,b1))):Option ((List (Int×Int×Int))×List Int×List Int)).bind fun (list1,a2,b2)=>
 ((lensOf a2 15).bind fun LensOf=>
 ((trimmed LensOf 257).bind fun trimmed_=>
 ((lensOf b2 15).bind fun LensOf1=>
 ((trimmed LensOf1 1).bind fun trimmed_1=>
 (need (fits (([]:List (Int)).length+trimmed_.length)) (need (fits (([]++trimmed_).length+trimmed_1.length)) (need (decide (0≤(([16,17,18,0,8,7,9,6,10,5,11,4,12,3,13,2,14,1,15]:List (Int)).length:Int))&&fits (([16,17,18,0,8,7,9,6,10,5,11,4,12,3,13,2,14,1,15]:List (Int)).length:Int).toNat) ((ownPut.l1 ((((([]++trimmed_)++trimmed_1).length:Int)-(0:Int)).toNat+1) (trimmed_,trimmed_1,((([]++trimmed_)++trimmed_1).length:Int),0,list1,(([]++trimmed_)++trimmed_1),(List.replicate (([16,17,18,0,8,7,9,6,10,5,11,4,12,3,13,2,14,1,15]:List (Int)).length:Int).toNat (0:Int)))).bind fun (lit1,dist1,list3,all,c1)=>
 ((lensOf c1 7).bind fun LensOf2=>
 ((wPut 1 1 0 []).bind fun (r4,r5)=>
 ((wPut 2 2 r4 r5).bind fun (r6,r7)=>
 ((wPut (w64 ((lit1.length:Int)-257)) 5 r6 r7).bind fun (r8,r9)=>
 ((wPut (w64 ((dist1.length:Int)-1)) 5 r8 r9).bind fun (r10,r11)=>
 ((wPut (w64 ((([16,17,18,0,8,7,9,6,10,5,11,4,12,3,13,2,14,1,15]:List (Int)).length:Int)-4)) 4 r10 r11).bind fun (r12,r13)=>
 ((ownPut.l2 (((([16,17,18,0,8,7,9,6,10,5,11,4,12,3,13,2,14,1,15]:List (Int)).length:Int)-(0:Int)).toNat+1) (lit1,dist1,[16,17,18,0,8,7,9,6,10,5,11,4,12,3,13,2,14,1,15],(([16,17,18,0,8,7,9,6,10,5,11,4,12,3,13,2,14,1,15]:List (Int)).length:Int),0,list3,all,LensOf2,r12,r13)).bind fun (lit3,dist3,list5,all2,meta_1,o4,o5)=>
 ((codes meta_1).bind fun codes_=>
 ((ownPut.l3 (((all2.length:Int)-(0:Int)).toNat+1) (lit3,dist3,(all2.length:Int),0,list5,meta_1,o4,codes_,all2,o5)).bind fun (lit5,dist5,list7,o9,o10)=>
 ((wTokens list7 lit5 dist5 o9 o10).bind fun (r18,r19)=>
 (some (toBytes r19)))))))))))))))))))))))))))
def flatePut.l0.step (again:(Str×Int×Int×List Str)→Option (Str)):(Str×Int×Int×List Str)→Option (Str):=fun (best,t,t1,o)=>
 (bif (decide (t1<t)) then (need (decide (0≤t1)&&decide (t1<o.length)) (bif (decide (((o.getD t1.toNat []).length:Int)<(best.length:Int))) then (again ((o.getD t1.toNat []),t,(w64 (t1+1)),o)) else
 (again (best,t,(w64 (t1+1)),o)))) else
 (some best))
def flatePut.l0:Nat→(Str×Int×Int×List Str)→Option (Str):=loopN (flatePut.l0.step)
theorem flatePut.l0.succ (n:Nat) (t:(Str×Int×Int×List Str)):flatePut.l0 (n+1) t=flatePut.l0.step (flatePut.l0 n) t:=rfl
def flatePut (text:Str):Option (Str):=
 ((storePut text).bind fun StorePut=>
 ((fixedPut text).bind fun FixedPut=>
 ((ownPut text).bind fun OwnPut=>
 ((flatePut.l0 (((([FixedPut,OwnPut]:List (Str)).length:Int)-(0:Int)).toNat+1) (StorePut,(([FixedPut,OwnPut]:List (Str)).length:Int),0,[FixedPut,OwnPut])).bind fun best1=>
 (some best1)))))
def rStored.l0.step (again:(Int×Int×Str×Int×Bool×List Int)→Option (Str×Int×Bool×List Int)):(Int×Int×Str×Int×Bool×List Int)→Option (Str×Int×Bool×List Int):=fun (n1,k,o3,o4,o5,out2)=>
 ((bif (decide (k<n1)) then (bif (!o5) then (some (decide ((out2.length:Int)≤300))) else
 (some false)) else
 (some false)).bind fun c=>
 (bif c then ((rGet 8 o3 o4 o5).bind fun (r11,r12,r13,r14)=>
 (need (fits (out2.length+([(IntKind.wrap .u8 r11)]:List (Int)).length)) (again (n1,(w64 (k+1)),r12,r13,r14,(out2++[(IntKind.wrap .u8 r11)]))))) else
 (some (o3,o4,o5,out2))))
def rStored.l0:Nat→(Int×Int×Str×Int×Bool×List Int)→Option (Str×Int×Bool×List Int):=loopN (rStored.l0.step)
theorem rStored.l0.succ (n:Nat) (t:(Int×Int×Str×Int×Bool×List Int)):rStored.l0 (n+1) t=rStored.l0.step (rStored.l0 n) t:=rfl
def rStored (s:Str) (at_:Int) (bad:Bool) (out:List Int):Option (Str×Int×Bool×List Int):=
 ((rEven s at_ bad).bind fun (r,r1,r2)=>
 ((rGet 16 r r1 r2).bind fun (r3,r4,r5,r6)=>
 ((rGet 16 r4 r5 r6).bind fun (r7,r8,r9,r10)=>
 (((bif (r3 != (w64 (65535-r7))) then (some (r3,r8,r9,true,out)) else
 (some (r3,r8,r9,r10,out))):Option (Int×Str×Int×Bool×List Int)).bind fun (n,o,o1,o2,out1)=>
 ((rStored.l0 ((n-(0:Int)).toNat+1) (n,0,o,o1,o2,out1)).bind fun (o6,o7,o8,out3)=>
 (some (o6,o7,o8,out3)))))))
def rLengths.l1.step (again:(Int×Int×Int×Int×Int×Str×Int×Bool×(List ((Int×Int)×Int))×List Int)→Option (Int×Int×Str×Int×Bool×(List ((Int×Int)×Int))×List Int)):(Int×Int×Int×Int×Int×Str×Int×Bool×(List ((Int×Int)×Int))×List Int)→Option (Int×Int×Str×Int×Bool×(List ((Int×Int)×Int))×List Int):=fun (lit5,dist5,again_1,t3,t4,o17,o18,o19,o20,all2)=>
 (bif (decide (t4<t3)) then (need (fits (all2.length+([again_1]:List (Int)).length)) (again (lit5,dist5,again_1,t3,(w64 (t4+1)),o17,o18,o19,o20,(all2++[again_1])))) else
 (some (lit5,dist5,o17,o18,o19,o20,all2)))
def rLengths.l1:Nat→(Int×Int×Int×Int×Int×Str×Int×Bool×(List ((Int×Int)×Int))×List Int)→Option (Int×Int×Str×Int×Bool×(List ((Int×Int)×Int))×List Int):=loopN (rLengths.l1.step)
theorem rLengths.l1.succ (n:Nat) (t:(Int×Int×Int×Int×Int×Str×Int×Bool×(List ((Int×Int)×Int))×List Int)):rLengths.l1 (n+1) t=rLengths.l1.step (rLengths.l1 n) t:=rfl
def rLengths.l2.step (again:(Int×Int×Str×Int×Bool×(List ((Int×Int)×Int))×List Int)→Option (Int×Int×Str×Int×Bool×List Int)):(Int×Int×Str×Int×Bool×(List ((Int×Int)×Int))×List Int)→Option (Int×Int×Str×Int×Bool×List Int):=fun (lit3,dist3,o9,o10,o11,o12,all)=>
 ((bif (decide ((all.length:Int)<(w64 (lit3+dist3)))) then (some (!o11)) else
 (some false)).bind fun c2=>
 (bif c2 then ((rSymbol o9 o10 o11 o12).bind fun (r16,r17,r18,r19,r20)=>
 (((bif (decide (r16<16)) then (some (lit3,dist3,r16,1,r17,r18,r19,r20,all)) else
 (bif (r16==16) then ((rGet 2 r17 r18 r19).bind fun (r21,r22,r23,r24)=>
 (bif ((all.length:Int)==0) then (some (lit3,dist3,0,(w64 (3+r21)),r22,r23,true,r20,all)) else
 (need (decide (0≤(w64 ((all.length:Int)-1)))&&decide ((w64 ((all.length:Int)-1))<all.length)) (some (lit3,dist3,(all.getD ((w64 ((all.length:Int)-1)).toNat) 0),(w64 (3+r21)),r22,r23,r24,r20,all))))) else
 (bif (r16==17) then ((rGet 3 r17 r18 r19).bind fun (r25,r26,r27,r28)=>
 (some (lit3,dist3,0,(w64 (3+r25)),r26,r27,r28,r20,all))) else
 ((rGet 7 r17 r18 r19).bind fun (r29,r30,r31,r32)=>
 (some (lit3,dist3,0,(w64 (11+r29)),r30,r31,r32,r20,all)))))):Option (Int×Int×Int×Int×Str×Int×Bool×(List ((Int×Int)×Int))×List Int)).bind fun (lit4,dist4,again_,times,o13,o14,o15,o16,all1)=>
 ((rLengths.l1 ((times-(0:Int)).toNat+1) (lit4,dist4,again_,times,0,o13,o14,o15,o16,all1)).bind fun (lit6,dist6,o21,o22,o23,o24,all3)=>
 (again (lit6,dist6,o21,o22,o23,o24,all3))))) else
 (some (lit3,dist3,o9,o10,o11,all))))
def rLengths.l2:Nat→(Int×Int×Str×Int×Bool×(List ((Int×Int)×Int))×List Int)→Option (Int×Int×Str×Int×Bool×List Int):=loopN (rLengths.l2.step)
theorem rLengths.l2.succ (n:Nat) (t:(Int×Int×Str×Int×Bool×(List ((Int×Int)×Int))×List Int)):rLengths.l2 (n+1) t=rLengths.l2.step (rLengths.l2 n) t:=rfl
def rLengths.l0.step (again:(Int×Int×List Int×Int×Int×Str×Int×Bool×List Int)→Option (Int×Int×Str×Int×Bool×List Int)):(Int×Int×List Int×Int×Int×Str×Int×Bool×List Int)→Option (Int×Int×Str×Int×Bool×List Int):=fun (lit1,dist1,t,t1,t2,o3,o4,o5,meta_)=>
 (bif (decide (t2<t1)) then (need (decide (0≤t2)&&decide (t2<t.length)) ((rGet 3 o3 o4 o5).bind fun (r12,r13,r14,r15)=>
 (need (decide (0≤(t.getD t2.toNat 0))&&decide ((t.getD t2.toNat 0)<meta_.length)) (again (lit1,dist1,t,t1,(w64 (t2+1)),r13,r14,r15,(meta_.set ((t.getD t2.toNat 0).toNat) r12)))))) else
 (some (lit1,dist1,o3,o4,o5,meta_)))
def rLengths.l0:Nat→(Int×Int×List Int×Int×Int×Str×Int×Bool×List Int)→Option (Int×Int×Str×Int×Bool×List Int):=loopN (rLengths.l0.step)
theorem rLengths.l0.succ (n:Nat) (t:(Int×Int×List Int×Int×Int×Str×Int×Bool×List Int)):rLengths.l0 (n+1) t=rLengths.l0.step (rLengths.l0 n) t:=rfl
def rLengths (s:Str) (at_:Int) (bad:Bool):Option (List Int×List Int×Str×Int×Bool):=
 ((rGet 5 s at_ bad).bind fun (r,r1,r2,r3)=>
 ((rGet 5 r1 r2 r3).bind fun (r4,r5,r6,r7)=>
 ((rGet 4 r5 r6 r7).bind fun (r8,r9,r10,r11)=>
 ((((bif (decide ((w64 (r+257))>286)) then (some true) else
 (some (decide ((w64 (r4+1))>30)))).bind fun c=>
 (bif c then (some ((w64 (r+257)),(w64 (r4+1)),(w64 (r8+4)),r9,r10,true)) else
 (some ((w64 (r+257)),(w64 (r4+1)),(w64 (r8+4)),r9,r10,r11)))):Option (Int×Int×Int×Str×Int×Bool)).bind fun (lit,dist,many,o,o1,o2)=>
 (need (decide (0≤(([16,17,18,0,8,7,9,6,10,5,11,4,12,3,13,2,14,1,15]:List (Int)).length:Int))&&fits (([16,17,18,0,8,7,9,6,10,5,11,4,12,3,13,2,14,1,15]:List (Int)).length:Int).toNat) (need (decide (0≤many)&&decide (many≤([16,17,18,0,8,7,9,6,10,5,11,4,12,3,13,2,14,1,15]:List (Int)).length)) ((rLengths.l0 ((((([16,17,18,0,8,7,9,6,10,5,11,4,12,3,13,2,14,1,15]:List (Int)).take many.toNat).length:Int)-(0:Int)).toNat+1) (lit,dist,(([16,17,18,0,8,7,9,6,10,5,11,4,12,3,13,2,14,1,15]:List (Int)).take many.toNat),((([16,17,18,0,8,7,9,6,10,5,11,4,12,3,13,2,14,1,15]:List (Int)).take many.toNat).length:Int),0,o,o1,o2,(List.replicate (([16,17,18,0,8,7,9,6,10,5,11,4,12,3,13,2,14,1,15]:List (Int)).length:Int).toNat (0:Int)))).bind fun (lit2,dist2,o6,o7,o8,meta_1)=>
 ((bif o8 then (some true) else
 ((lensOk meta_1).bind fun LensOk=>
 (some (!LensOk)))).bind fun c1=>
 (bif c1 then (some ([],[],o6,o7,true)) else
 ((bookOf meta_1).bind fun bookOf_=>
 ((rLengths.l2 (((w64 (lit2+dist2))-(([]:List Int).length:Int)).toNat+1) (lit2,dist2,o6,o7,o8,bookOf_,[])).bind fun (lit7,dist7,o25,o26,o27,all4)=>
 ((bif ((all4.length:Int) != (w64 (lit7+dist7))) then (some true) else
 (some o27)).bind fun c3=>
 (bif c3 then (some ([],[],o25,o26,true)) else
 (need (decide (0≤lit7)&&decide (lit7≤all4.length)) (need (decide (0≤lit7)&&decide (lit7≤all4.length)) (some (((all4.drop 0).take lit7.toNat),((all4.drop lit7.toNat).take (all4.length-lit7.toNat)),o25,o26,o27)))))))))))))))))
def rPacked.l0.step (again:(Str×Int×Bool×List Int×(List ((Int×Int)×Int))×List ((Int×Int)×Int))→Option ((Str×Int×Bool×List Int)⊕(Str×Int×Bool×List Int))):(Str×Int×Bool×List Int×(List ((Int×Int)×Int))×List ((Int×Int)×Int))→Option ((Str×Int×Bool×List Int)⊕(Str×Int×Bool×List Int)):=fun (o,o1,o2,out1,o3,o4)=>
 ((bif (!o2) then (some (decide ((out1.length:Int)≤300))) else
 (some false)).bind fun c1=>
 (bif c1 then ((rSymbol o o1 o2 o3).bind fun (r,r1,r2,r3,r4)=>
 ((bif r3 then (some true) else
 (some (r==256))).bind fun c2=>
 (bif c2 then ((some (r1,r2,r3,out1)).map Sum.inr) else
 (bif (decide (r<256)) then (need (fits (out1.length+([(IntKind.wrap .u8 r)]:List (Int)).length)) (again (r1,r2,r3,(out1++[(IntKind.wrap .u8 r)]),r4,o4))) else
 (bif (decide ((w64 (r-257))≥28)) then ((some (r1,r2,true,out1)).map Sum.inr) else
 ((longsOf).bind fun (r5,r6)=>
 (need (decide (0≤(w64 (r-257)))&&decide ((w64 (r-257))<r5.length)) ((longsOf).bind fun (r7,r8)=>
 (need (decide (0≤(w64 (r-257)))&&decide ((w64 (r-257))<r8.length)) ((rGet (r8.getD (w64 (r-257)).toNat 0) r1 r2 r3).bind fun (r9,r10,r11,r12)=>
 ((rSymbol r10 r11 r12 o4).bind fun (r13,r14,r15,r16,r17)=>
 (bif (decide (r13≥30)) then ((some (r14,r15,true,out1)).map Sum.inr) else
 ((backsOf).bind fun (r18,r19)=>
 (need (decide (0≤r13)&&decide (r13<r18.length)) ((backsOf).bind fun (r20,r21)=>
 (need (decide (0≤r13)&&decide (r13<r21.length)) ((rGet (r21.getD r13.toNat 0) r14 r15 r16).bind fun (r22,r23,r24,r25)=>
 ((add 0 (w64 ((r5.getD (w64 (r-257)).toNat 0)+r9)) (w64 ((r18.getD r13.toNat 0)+r22)) out1).bind fun (r26,r27)=>
 ((bif (!r26) then (some true) else
 (some r25)).bind fun c3=>
 (bif c3 then (none.map Sum.inr) else
 (again (r23,r24,r25,r27,r4,r17)))))))))))))))))))))) else
 (some (.inl (o,o1,o2,out1)))))
def rPacked.l0:Nat→(Str×Int×Bool×List Int×(List ((Int×Int)×Int))×List ((Int×Int)×Int))→Option ((Str×Int×Bool×List Int)⊕(Str×Int×Bool×List Int)):=loopN (rPacked.l0.step)
theorem rPacked.l0.succ (n:Nat) (t:(Str×Int×Bool×List Int×(List ((Int×Int)×Int))×List ((Int×Int)×Int))):rPacked.l0 (n+1) t=rPacked.l0.step (rPacked.l0 n) t:=rfl
def rPacked (lit:List Int) (dist:List Int) (s:Str) (at_:Int) (bad:Bool) (out:List Int):Option (Str×Int×Bool×List Int):=
 ((bif bad then (some true) else
 ((lensOk lit).bind fun LensOk=>
 (bif (!LensOk) then (some true) else
 ((lensOk dist).bind fun LensOk1=>
 (some (!LensOk1)))))).bind fun c=>
 (bif c then (some (s,at_,true,out)) else
 ((bookOf lit).bind fun bookOf_=>
 ((bookOf dist).bind fun bookOf_1=>
 ((rPacked.l0 (100000) (s,at_,bad,out,bookOf_,bookOf_1)).bind fun r=>match r with
 | .inl (o5,o6,o7,out2)=>(some (o5,o6,o7,out2))
 | .inr r=>some r)))))
def rPackedBad.l0.step (again:(Str×Int×Bool×List Int×(List ((Int×Int)×Int))×List ((Int×Int)×Int))→Option ((Str×Int×Bool×List Int)⊕(Str×Int×Bool))):(Str×Int×Bool×List Int×(List ((Int×Int)×Int))×List ((Int×Int)×Int))→Option ((Str×Int×Bool×List Int)⊕(Str×Int×Bool)):=fun (o,o1,o2,out1,o3,o4)=>
 ((bif (!o2) then (some (decide ((out1.length:Int)≤300))) else
 (some false)).bind fun c1=>
 (bif c1 then ((rSymbol o o1 o2 o3).bind fun (r,r1,r2,r3,r4)=>
 ((bif r3 then (some true) else
 (some (r==256))).bind fun c2=>
 (bif c2 then ((some (r1,r2,r3)).map Sum.inr) else
 (bif (decide (r<256)) then (need (fits (out1.length+([(IntKind.wrap .u8 r)]:List (Int)).length)) (again (r1,r2,r3,(out1++[(IntKind.wrap .u8 r)]),r4,o4))) else
 (bif (decide ((w64 (r-257))≥28)) then ((some (r1,r2,true)).map Sum.inr) else
 ((longsOf).bind fun (r5,r6)=>
 (need (decide (0≤(w64 (r-257)))&&decide ((w64 (r-257))<r5.length)) ((longsOf).bind fun (r7,r8)=>
 (need (decide (0≤(w64 (r-257)))&&decide ((w64 (r-257))<r8.length)) ((rGet (r8.getD (w64 (r-257)).toNat 0) r1 r2 r3).bind fun (r9,r10,r11,r12)=>
 ((rSymbol r10 r11 r12 o4).bind fun (r13,r14,r15,r16,r17)=>
 (bif (decide (r13≥30)) then ((some (r14,r15,true)).map Sum.inr) else
 ((backsOf).bind fun (r18,r19)=>
 (need (decide (0≤r13)&&decide (r13<r18.length)) ((backsOf).bind fun (r20,r21)=>
 (need (decide (0≤r13)&&decide (r13<r21.length)) ((rGet (r21.getD r13.toNat 0) r14 r15 r16).bind fun (r22,r23,r24,r25)=>
 ((add 0 (w64 ((r5.getD (w64 (r-257)).toNat 0)+r9)) (w64 ((r18.getD r13.toNat 0)+r22)) out1).bind fun (r26,r27)=>
 ((bif (!r26) then (some true) else
 (some r25)).bind fun c3=>
 (bif c3 then ((some (r23,r24,true)).map Sum.inr) else
 (again (r23,r24,r25,r27,r4,r17)))))))))))))))))))))) else
 (some (.inl (o,o1,o2,out1)))))
def rPackedBad.l0:Nat→(Str×Int×Bool×List Int×(List ((Int×Int)×Int))×List ((Int×Int)×Int))→Option ((Str×Int×Bool×List Int)⊕(Str×Int×Bool)):=loopN (rPackedBad.l0.step)
theorem rPackedBad.l0.succ (n:Nat) (t:(Str×Int×Bool×List Int×(List ((Int×Int)×Int))×List ((Int×Int)×Int))):rPackedBad.l0 (n+1) t=rPackedBad.l0.step (rPackedBad.l0 n) t:=rfl
def rPackedBad (lit:List Int) (dist:List Int) (s:Str) (at_:Int) (bad:Bool) (out:List Int):Option (Str×Int×Bool):=
 ((bif bad then (some true) else
 ((lensOk lit).bind fun LensOk=>
 (bif (!LensOk) then (some true) else
 ((lensOk dist).bind fun LensOk1=>
 (some (!LensOk1)))))).bind fun c=>
 (bif c then (some (s,at_,true)) else
 ((bookOf lit).bind fun bookOf_=>
 ((bookOf dist).bind fun bookOf_1=>
 ((rPackedBad.l0 (100000) (s,at_,bad,out,bookOf_,bookOf_1)).bind fun r=>match r with
 | .inl (o5,o6,o7,out2)=>(some (o5,o6,o7))
 | .inr r=>some r)))))
def flateGet.l0.step (again:(Bool×Str×Int×Bool×List Int)→Option ((Str×Int×Bool×List Int)⊕(Str×Int×Bool))):(Bool×Str×Int×Bool×List Int)→Option ((Str×Int×Bool×List Int)⊕(Str×Int×Bool)):=fun (last,o,o1,o2,out)=>
 (bif (!last) then ((rBit o o1 o2).bind fun (r,r1,r2,r3)=>
 ((rGet 2 r1 r2 r3).bind fun (r4,r5,r6,r7)=>
 (bif (r4==0) then ((rStored r5 r6 r7 out).bind fun (r8,r9,r10,r11)=>
 (bif r10 then ((some ([],0,false)).map Sum.inr) else
 (bif (decide ((r11.length:Int)>300)) then ((some ([],0,false)).map Sum.inr) else
 (again ((r==1),r8,r9,r10,r11))))) else
 (bif (r4==1) then ((fixedLens).bind fun (r12,r13)=>
 (orElse (rPacked r12 r13 r5 r6 r7 out) (fun (r14,r15,r16,r17)=>
 (bif r16 then ((some ([],0,false)).map Sum.inr) else
 (bif (decide ((r17.length:Int)>300)) then ((some ([],0,false)).map Sum.inr) else
 (again ((r==1),r14,r15,r16,r17))))) ((rPackedBad r12 r13 r5 r6 r7 out).bind fun (r18,r19,r20)=>
 (bif r20 then ((some ([],0,false)).map Sum.inr) else
 none)))) else
 (bif (r4==2) then ((rLengths r5 r6 r7).bind fun (r21,r22,r23,r24,r25)=>
 (orElse (rPacked r21 r22 r23 r24 r25 out) (fun (r26,r27,r28,r29)=>
 (bif r28 then ((some ([],0,false)).map Sum.inr) else
 (bif (decide ((r29.length:Int)>300)) then ((some ([],0,false)).map Sum.inr) else
 (again ((r==1),r26,r27,r28,r29))))) ((rPackedBad r21 r22 r23 r24 r25 out).bind fun (r30,r31,r32)=>
 (bif r32 then ((some ([],0,false)).map Sum.inr) else
 none)))) else
 ((some ([],0,false)).map Sum.inr)))))) else
 (some (.inl (o,o1,o2,out))))
def flateGet.l0:Nat→(Bool×Str×Int×Bool×List Int)→Option ((Str×Int×Bool×List Int)⊕(Str×Int×Bool)):=loopN (flateGet.l0.step)
theorem flateGet.l0.succ (n:Nat) (t:(Bool×Str×Int×Bool×List Int)):flateGet.l0 (n+1) t=flateGet.l0.step (flateGet.l0 n) t:=rfl
def flateGet (text:Str):Option (Str×Int×Bool):=
 (bif (decide ((text.length:Int)>700)) then (some ([],0,false)) else
 ((flateGet.l0 (100000) (false,text,0,false,[])).bind fun r=>match r with
 | .inl (o3,o4,o5,out1)=>((rEven o3 o4 o5).bind fun (r33,r34,r35)=>
 (bif r35 then (some ([],0,false)) else
 (some ((toBytes out1),(w64 (r34.tdiv 8)),true))))
 | .inr r=>some r))
def days (year:Int) (month:Int):Option (Int):=
 (((bif (month==4) then (some (year,month,(month==4))) else
 (bif (month==6) then (some (year,month,(month==6))) else
 (bif (month==9) then (some (year,month,(month==9))) else
 (some (year,month,(month==11)))))):Option (Int×Int×Bool)).bind fun (year1,t,t1)=>
 (bif t1 then (some 30) else
 (bif (t==2) then ((bif ((year1.tmod 4)==0) then (bif ((year1.tmod 100) != 0) then (some true) else
 (some ((year1.tmod 400)==0))) else
 (some false)).bind fun c=>
 (bif c then (some 29) else
 (some 28))) else
 (some 31))))
def stampOk (y:Int) (mo:Int) (d:Int) (h:Int) (mi:Int) (sec:Int):Option (Bool):=
 (((within y 1980 2107).bind fun within_=>
 (bif within_ then ((within mo 1 12).bind fun within_1=>
 (bif within_1 then ((days y mo).bind fun days_=>
 ((within d 1 days_).bind fun within_2=>
 (bif within_2 then ((within h 0 23).bind fun within_3=>
 (bif within_3 then ((within mi 0 59).bind fun within_4=>
 (bif within_4 then ((within sec 0 58).bind fun within_5=>
 (bif within_5 then (some ((sec.tmod 2)==0)) else
 (some false))) else
 (some false))) else
 (some false))) else
 (some false)))) else
 (some false))) else
 (some false))).bind fun c=>
 (some c))
def stampPut (y:Int) (mo:Int) (d:Int) (h:Int) (mi:Int) (sec:Int):Option (Int):=
 ((stampOk y mo d h mi sec).bind fun StampOk=>
 (bif (!StampOk) then (some (-1)) else
 (some (ior .i64 (ior .i64 (ior .i64 (ior .i64 (ior .i64 (w64 (sec.tdiv 2)) (ishl .i64 mi 5)) (ishl .i64 h 11)) (ishl .i64 d 16)) (ishl .i64 mo 21)) (ishl .i64 (w64 (y-1980)) 25)))))
def stampGet (n:Int):Option (Int×Int×Int×Int×Int×Int×Bool):=
 (bif (decide (n<0)) then (some (0,0,0,0,0,0,false)) else
 ((stampPut (w64 (1980+(iand .i64 (ishr .i64 n 25) 127))) (iand .i64 (ishr .i64 n 21) 15) (iand .i64 (ishr .i64 n 16) 31) (iand .i64 (ishr .i64 n 11) 31) (iand .i64 (ishr .i64 n 5) 63) (w64 ((iand .i64 n 31)*2))).bind fun StampPut=>
 (bif (StampPut != n) then (some (0,0,0,0,0,0,false)) else
 (some ((w64 (1980+(iand .i64 (ishr .i64 n 25) 127))),(iand .i64 (ishr .i64 n 21) 15),(iand .i64 (ishr .i64 n 16) 31),(iand .i64 (ishr .i64 n 11) 31),(iand .i64 (ishr .i64 n 5) 63),(w64 ((iand .i64 n 31)*2)),true)))))
def entryOk (name:Str) (y:Int) (mo:Int) (d:Int) (h:Int) (mi:Int) (sec:Int) (text:Str):Option (Bool):=
 (((implNameOk name).bind fun NameOk=>
 (bif NameOk then ((stampOk y mo d h mi sec).bind fun StampOk=>
 (bif StampOk then (some (decide ((text.length:Int)≤300))) else
 (some false))) else
 (some false))).bind fun c=>
 (some c))
def number.l0.step (again:(Int×Int×Int×List Int)→Option (List Int)):(Int×Int×Int×List Int)→Option (List Int):=fun (n1,t,t1,out)=>
 (bif (decide (t1<t)) then (need (fits (out.length+([(IntKind.wrap .u8 (n1.tmod 256))]:List (Int)).length)) (again ((w64 (n1.tdiv 256)),t,(w64 (t1+1)),(out++[(IntKind.wrap .u8 (n1.tmod 256))])))) else
 (some out))
def number.l0:Nat→(Int×Int×Int×List Int)→Option (List Int):=loopN (number.l0.step)
theorem number.l0.succ (n:Nat) (t:(Int×Int×Int×List Int)):number.l0 (n+1) t=number.l0.step (number.l0 n) t:=rfl
def number (n:Int) (bytes:Int):Option (Str):=
 ((number.l0 ((bytes-(0:Int)).toNat+1) (n,bytes,0,[])).bind fun out1=>
 (some (toBytes out1)))
def numberAt.l0.step (again:(Str×Int×Int×Int)→Option (Int)):(Str×Int×Int×Int)→Option (Int):=fun (s1,at_1,n,k)=>
 (bif (decide (k≥0)) then (need (decide (0≤(w64 (at_1+k)))&&decide ((w64 (at_1+k))<s1.length)) (again (s1,at_1,(w64 ((w64 (256*n))+(w64 ((s1.getD (w64 (at_1+k)).toNat 0).toNat:Int)))),(w64 (k-1))))) else
 (some n))
def numberAt.l0:Nat→(Str×Int×Int×Int)→Option (Int):=loopN (numberAt.l0.step)
theorem numberAt.l0.succ (n:Nat) (t:(Str×Int×Int×Int)):numberAt.l0 (n+1) t=numberAt.l0.step (numberAt.l0 n) t:=rfl
def numberAt (s:Str) (at_:Int) (bytes:Int):Option (Int):=
 ((numberAt.l0 (((w64 (bytes-1))-0).toNat+2) (s,at_,0,(w64 (bytes-1)))).bind fun n1=>
 (some n1))
def headOf (name:Str) (y:Int) (mo:Int) (d:Int) (h:Int) (mi:Int) (sec:Int) (text:Str) (method:Int) (packed:Int):Option (Str):=
 ((number 20 2).bind fun number_=>
 (need (fits (([80,75,3,4]:Str).length+number_.length)) ((number 0 2).bind fun number_1=>
 (need (fits (([80,75,3,4]++number_).length+number_1.length)) ((number method 2).bind fun number_2=>
 (need (fits ((([80,75,3,4]++number_)++number_1).length+number_2.length)) ((stampPut y mo d h mi sec).bind fun StampPut=>
 ((number StampPut 4).bind fun number_3=>
 (need (fits (((([80,75,3,4]++number_)++number_1)++number_2).length+number_3.length)) ((crc text).bind fun Crc=>
 ((number Crc 4).bind fun number_4=>
 (need (fits ((((([80,75,3,4]++number_)++number_1)++number_2)++number_3).length+number_4.length)) ((number packed 4).bind fun number_5=>
 (need (fits (((((([80,75,3,4]++number_)++number_1)++number_2)++number_3)++number_4).length+number_5.length)) ((number (text.length:Int) 4).bind fun number_6=>
 (need (fits ((((((([80,75,3,4]++number_)++number_1)++number_2)++number_3)++number_4)++number_5).length+number_6.length)) ((number (name.length:Int) 2).bind fun number_7=>
 (need (fits (((((((([80,75,3,4]++number_)++number_1)++number_2)++number_3)++number_4)++number_5)++number_6).length+number_7.length)) ((number 0 2).bind fun number_8=>
 (need (fits ((((((((([80,75,3,4]++number_)++number_1)++number_2)++number_3)++number_4)++number_5)++number_6)++number_7).length+number_8.length)) (some ((((((((([80,75,3,4]++number_)++number_1)++number_2)++number_3)++number_4)++number_5)++number_6)++number_7)++number_8))))))))))))))))))))))
def localPut (name:Str) (y:Int) (mo:Int) (d:Int) (h:Int) (mi:Int) (sec:Int) (text:Str):Option (Str):=
 ((entryOk name y mo d h mi sec text).bind fun EntryOk=>
 (bif (!EntryOk) then (some []) else
 ((flatePut text).bind fun FlatePut=>
 (bif (decide ((FlatePut.length:Int)<(text.length:Int))) then ((headOf name y mo d h mi sec text 8 (FlatePut.length:Int)).bind fun headOf_=>
 (need (fits (headOf_.length+name.length)) (need (fits ((headOf_++name).length+FlatePut.length)) (some ((headOf_++name)++FlatePut))))) else
 ((headOf name y mo d h mi sec text 0 (text.length:Int)).bind fun headOf_1=>
 (need (fits (headOf_1.length+name.length)) (need (fits ((headOf_1++name).length+text.length)) (some ((headOf_1++name)++text)))))))))
def localGet (text:Str):Option (Str×Int×Int×Int×Int×Int×Int×Str×Int×Bool):=
 (bif (decide ((text.length:Int)<30)) then (some ([],0,0,0,0,0,0,[],0,false)) else
 ((numberAt text 8 2).bind fun numberAt_=>
 ((numberAt text 18 4).bind fun numberAt_1=>
 ((numberAt text 26 2).bind fun numberAt_2=>
 (need (decide (0≤(30:Int))&&decide ((30:Int)≤text.length)) ((bif (decide (((text.drop 30).length:Int)<numberAt_2)) then (some true) else
 (some (decide ((w64 (((text.drop 30).length:Int)-numberAt_2))<numberAt_1)))).bind fun c=>
 (bif c then (some ([],0,0,0,0,0,0,[],0,false)) else
 (need (decide (0≤numberAt_2)&&decide (numberAt_2≤(text.drop 30).length)) (need (decide (0≤(w64 (numberAt_2+numberAt_1)))&&decide ((w64 (numberAt_2+numberAt_1))≤(text.drop 30).length)) (need (decide (0≤numberAt_2)&&decide (numberAt_2≤(w64 (numberAt_2+numberAt_1)))) ((numberAt text 10 4).bind fun numberAt_3=>
 ((stampGet numberAt_3).bind fun (r,r1,r2,r3,r4,r5,r6)=>
 (((bif (numberAt_==0) then (some (.inl (text,numberAt_,numberAt_1,numberAt_2,[],0,0,0,0,0,0,[],((text.drop 30).take numberAt_2.toNat),r,r1,r2,r3,r4,r5,(((text.drop 30).take (w64 (numberAt_2+numberAt_1)).toNat).drop numberAt_2.toNat)))) else
 (bif (numberAt_==8) then ((flateGet (((text.drop 30).take (w64 (numberAt_2+numberAt_1)).toNat).drop numberAt_2.toNat)).bind fun (r7,r8,r9)=>
 ((bif (!r9) then (some true) else
 (some (r8 != numberAt_1))).bind fun c1=>
 (bif c1 then ((some ([],0,0,0,0,0,0,[],0,false)).map Sum.inr) else
 (some (.inl (text,numberAt_,numberAt_1,numberAt_2,[],0,0,0,0,0,0,[],((text.drop 30).take numberAt_2.toNat),r,r1,r2,r3,r4,r5,r7)))))) else
 ((some ([],0,0,0,0,0,0,[],0,false)).map Sum.inr))):Option ((Str×Int×Int×Int×Str×Int×Int×Int×Int×Int×Int×Str×Str×Int×Int×Int×Int×Int×Int×Str)⊕(Str×Int×Int×Int×Int×Int×Int×Str×Int×Bool))).bind fun r=>match r with
 | .inl (text1,method,packed,name,o,o1,o2,o3,o4,o5,o6,o7,o8,o9,o10,o11,o12,o13,o14,o15)=>(((entryOk o8 o9 o10 o11 o12 o13 o14 o15).bind fun EntryOk=>
 (bif (!EntryOk) then (some true) else
 ((headOf o8 o9 o10 o11 o12 o13 o14 o15 method packed).bind fun headOf_=>
 (need (decide (0≤(30:Int))&&decide ((30:Int)≤text1.length)) (some (!(headOf_==(text1.take 30)))))))).bind fun c2=>
 (bif c2 then (some ([],0,0,0,0,0,0,[],0,false)) else
 (some (o8,o9,o10,o11,o12,o13,o14,o15,(w64 ((w64 (30+name))+packed)),true))))
 | .inr r=>some r)))))))))))))
def joinS (xs:List Str) (sep:Str):Option (Str):=need (fits xs.length&&fits (joinL xs sep).length) (some (joinL xs sep))
def namesOf.l0.step (again:((List (Str×Int×Int×Int×Int×Int×Int×Str))×Int×Int×List Str)→Option (List Str)):((List (Str×Int×Int×Int×Int×Int×Int×Str))×Int×Int×List Str)→Option (List Str):=fun (t,t1,t2,out)=>
 (bif (decide (t2<t1)) then (need (decide (0≤t2)&&decide (t2<t.length)) (need (fits (out.length+([(t.getD t2.toNat ([],0,0,0,0,0,0,[])).1]:List (Str)).length)) (again (t,t1,(w64 (t2+1)),(out++[(t.getD t2.toNat ([],0,0,0,0,0,0,[])).1]))))) else
 (some out))
def namesOf.l0:Nat→((List (Str×Int×Int×Int×Int×Int×Int×Str))×Int×Int×List Str)→Option (List Str):=loopN (namesOf.l0.step)
theorem namesOf.l0.succ (n:Nat) (t:((List (Str×Int×Int×Int×Int×Int×Int×Str))×Int×Int×List Str)):namesOf.l0 (n+1) t=namesOf.l0.step (namesOf.l0 n) t:=rfl
def namesOf (list:List (Str×Int×Int×Int×Int×Int×Int×Str)):Option (List Str):=
 ((namesOf.l0 (((list.length:Int)-(0:Int)).toNat+1) (list,(list.length:Int),0,[])).bind fun out1=>
 (some out1))
def zipOk.l0.step (again:((List (Str×Int×Int×Int×Int×Int×Int×Str))×(List (Str×Int×Int×Int×Int×Int×Int×Str))×Int×Int)→Option ((List (Str×Int×Int×Int×Int×Int×Int×Str))⊕(Bool))):((List (Str×Int×Int×Int×Int×Int×Int×Str))×(List (Str×Int×Int×Int×Int×Int×Int×Str))×Int×Int)→Option ((List (Str×Int×Int×Int×Int×Int×Int×Str))⊕(Bool)):=fun (list1,t,t1,t2)=>
 (bif (decide (t2<t1)) then (need (decide (0≤t2)&&decide (t2<t.length)) ((entryOk ((t.getD t2.toNat ([],0,0,0,0,0,0,[])).1) ((t.getD t2.toNat ([],0,0,0,0,0,0,[])).2.1) ((t.getD t2.toNat ([],0,0,0,0,0,0,[])).2.2.1) ((t.getD t2.toNat ([],0,0,0,0,0,0,[])).2.2.2.1) ((t.getD t2.toNat ([],0,0,0,0,0,0,[])).2.2.2.2.1) ((t.getD t2.toNat ([],0,0,0,0,0,0,[])).2.2.2.2.2.1) ((t.getD t2.toNat ([],0,0,0,0,0,0,[])).2.2.2.2.2.2.1) ((t.getD t2.toNat ([],0,0,0,0,0,0,[])).2.2.2.2.2.2.2)).bind fun EntryOk=>
 (bif (!EntryOk) then ((some false).map Sum.inr) else
 (again (list1,t,t1,(w64 (t2+1))))))) else
 (some (.inl list1)))
def zipOk.l0:Nat→((List (Str×Int×Int×Int×Int×Int×Int×Str))×(List (Str×Int×Int×Int×Int×Int×Int×Str))×Int×Int)→Option ((List (Str×Int×Int×Int×Int×Int×Int×Str))⊕(Bool)):=loopN (zipOk.l0.step)
theorem zipOk.l0.succ (n:Nat) (t:((List (Str×Int×Int×Int×Int×Int×Int×Str))×(List (Str×Int×Int×Int×Int×Int×Int×Str))×Int×Int)):zipOk.l0 (n+1) t=zipOk.l0.step (zipOk.l0 n) t:=rfl
def zipOk (list:List (Str×Int×Int×Int×Int×Int×Int×Str)):Option (Bool):=
 ((zipOk.l0 (((list.length:Int)-(0:Int)).toNat+1) (list,list,(list.length:Int),0)).bind fun r=>match r with
 | .inl list2=>(bif (decide ((list2.length:Int)≤6)) then ((namesOf list2).bind fun namesOf_=>
 ((apart namesOf_).bind fun apart_=>
 (some apart_))) else
 (some false))
 | .inr r=>some r)
def closing.l0.step (again:(List Str×Str×Int×List Str×Int×Int)→Option (List Str×Str×Int)):(List Str×Str×Int×List Str×Int×Int)→Option (List Str×Str×Int):=fun (locals1,heads,at_,t,t1,t2)=>
 (bif (decide (t2<t1)) then (need (decide (0≤t2)&&decide (t2<t.length)) ((numberAt (t.getD t2.toNat []) 26 2).bind fun numberAt_=>
 ((number 20 2).bind fun number_=>
 (need (fits (([80,75,1,2]:Str).length+number_.length)) (need (decide (0≤(30:Int))&&decide ((30:Int)≤(t.getD t2.toNat []).length)) (need (decide (0≤(4:Int))&&decide ((4:Int)≤(30:Int))) (need (fits (([80,75,1,2]++number_).length+(((t.getD t2.toNat []).take 30).drop 4).length)) ((number 0 10).bind fun number_1=>
 (need (fits ((([80,75,1,2]++number_)++(((t.getD t2.toNat []).take 30).drop 4)).length+number_1.length)) ((number at_ 4).bind fun number_2=>
 (need (fits (((([80,75,1,2]++number_)++(((t.getD t2.toNat []).take 30).drop 4))++number_1).length+number_2.length)) (need (decide (0≤(w64 (30+numberAt_)))&&decide ((w64 (30+numberAt_))≤(t.getD t2.toNat []).length)) (need (decide (0≤(30:Int))&&decide ((30:Int)≤(w64 (30+numberAt_)))) (need (fits ((((([80,75,1,2]++number_)++(((t.getD t2.toNat []).take 30).drop 4))++number_1)++number_2).length+(((t.getD t2.toNat []).take (w64 (30+numberAt_)).toNat).drop 30).length)) (need (fits (heads.length+((((([80,75,1,2]++number_)++(((t.getD t2.toNat []).take 30).drop 4))++number_1)++number_2)++(((t.getD t2.toNat []).take (w64 (30+numberAt_)).toNat).drop 30)).length)) (again (locals1,(heads++((((([80,75,1,2]++number_)++(((t.getD t2.toNat []).take 30).drop 4))++number_1)++number_2)++(((t.getD t2.toNat []).take (w64 (30+numberAt_)).toNat).drop 30))),(w64 (at_+((t.getD t2.toNat []).length:Int))),t,t1,(w64 (t2+1))))))))))))))))))) else
 (some (locals1,heads,at_)))
def closing.l0:Nat→(List Str×Str×Int×List Str×Int×Int)→Option (List Str×Str×Int):=loopN (closing.l0.step)
theorem closing.l0.succ (n:Nat) (t:(List Str×Str×Int×List Str×Int×Int)):closing.l0 (n+1) t=closing.l0.step (closing.l0 n) t:=rfl
def closing (locals:List Str):Option (Str):=
 ((closing.l0 (((locals.length:Int)-(0:Int)).toNat+1) (locals,[],0,locals,(locals.length:Int),0)).bind fun (locals2,heads1,at_1)=>
 ((number (locals2.length:Int) 2).bind fun number_3=>
 (need (fits (heads1.length+([80,75,5,6]:Str).length)) ((number 0 4).bind fun number_4=>
 (need (fits ((heads1++[80,75,5,6]).length+number_4.length)) (need (fits (((heads1++[80,75,5,6])++number_4).length+number_3.length)) (need (fits ((((heads1++[80,75,5,6])++number_4)++number_3).length+number_3.length)) ((number (heads1.length:Int) 4).bind fun number_5=>
 (need (fits (((((heads1++[80,75,5,6])++number_4)++number_3)++number_3).length+number_5.length)) ((number at_1 4).bind fun number_6=>
 (need (fits ((((((heads1++[80,75,5,6])++number_4)++number_3)++number_3)++number_5).length+number_6.length)) ((number 0 2).bind fun number_7=>
 (need (fits (((((((heads1++[80,75,5,6])++number_4)++number_3)++number_3)++number_5)++number_6).length+number_7.length)) (some (((((((heads1++[80,75,5,6])++number_4)++number_3)++number_3)++number_5)++number_6)++number_7)))))))))))))))
def zipPut.l0.step (again:((List (Str×Int×Int×Int×Int×Int×Int×Str))×Int×Int×List Str)→Option (List Str)):((List (Str×Int×Int×Int×Int×Int×Int×Str))×Int×Int×List Str)→Option (List Str):=fun (t,t1,t2,locals)=>
 (bif (decide (t2<t1)) then (need (decide (0≤t2)&&decide (t2<t.length)) ((localPut ((t.getD t2.toNat ([],0,0,0,0,0,0,[])).1) ((t.getD t2.toNat ([],0,0,0,0,0,0,[])).2.1) ((t.getD t2.toNat ([],0,0,0,0,0,0,[])).2.2.1) ((t.getD t2.toNat ([],0,0,0,0,0,0,[])).2.2.2.1) ((t.getD t2.toNat ([],0,0,0,0,0,0,[])).2.2.2.2.1) ((t.getD t2.toNat ([],0,0,0,0,0,0,[])).2.2.2.2.2.1) ((t.getD t2.toNat ([],0,0,0,0,0,0,[])).2.2.2.2.2.2.1) ((t.getD t2.toNat ([],0,0,0,0,0,0,[])).2.2.2.2.2.2.2)).bind fun LocalPut=>
 (need (fits (locals.length+([LocalPut]:List (Str)).length)) (again (t,t1,(w64 (t2+1)),(locals++[LocalPut])))))) else
 (some locals))
def zipPut.l0:Nat→((List (Str×Int×Int×Int×Int×Int×Int×Str))×Int×Int×List Str)→Option (List Str):=loopN (zipPut.l0.step)
theorem zipPut.l0.succ (n:Nat) (t:((List (Str×Int×Int×Int×Int×Int×Int×Str))×Int×Int×List Str)):zipPut.l0 (n+1) t=zipPut.l0.step (zipPut.l0 n) t:=rfl
def zipPut (list:List (Str×Int×Int×Int×Int×Int×Int×Str)):Option (Str):=
 ((zipOk list).bind fun ZipOk=>
 (bif (!ZipOk) then (some []) else
 ((zipPut.l0 (((list.length:Int)-(0:Int)).toNat+1) (list,(list.length:Int),0,[])).bind fun locals1=>
 ((joinS locals1 []).bind fun Join=>
 ((closing locals1).bind fun closing_=>
 (need (fits (Join.length+closing_.length)) (some (Join++closing_))))))))
def zipGet.l0.step (again:(Str×(List (Str×Int×Int×Int×Int×Int×Int×Str))×List Str)→Option (Str×(List (Str×Int×Int×Int×Int×Int×Int×Str))×List Str)):(Str×(List (Str×Int×Int×Int×Int×Int×Int×Str))×List Str)→Option (Str×(List (Str×Int×Int×Int×Int×Int×Int×Str))×List Str):=fun (rest,out,locals)=>
 (bif (decide ((out.length:Int)<6)) then ((localGet rest).bind fun (r,r1,r2,r3,r4,r5,r6,r7,r8,r9)=>
 (bif (!r9) then (some (rest,out,locals)) else
 (need (fits (out.length+([(r,r1,r2,r3,r4,r5,r6,r7)]:List (Str×Int×Int×Int×Int×Int×Int×Str)).length)) (need (decide (0≤r8)&&decide (r8≤rest.length)) (need (fits (locals.length+([(rest.take r8.toNat)]:List (Str)).length)) (need (decide (0≤r8)&&decide (r8≤rest.length)) (again ((rest.drop r8.toNat),(out++[(r,r1,r2,r3,r4,r5,r6,r7)]),(locals++[(rest.take r8.toNat)]))))))))) else
 (some (rest,out,locals)))
def zipGet.l0:Nat→(Str×(List (Str×Int×Int×Int×Int×Int×Int×Str))×List Str)→Option (Str×(List (Str×Int×Int×Int×Int×Int×Int×Str))×List Str):=loopN (zipGet.l0.step)
theorem zipGet.l0.succ (n:Nat) (t:(Str×(List (Str×Int×Int×Int×Int×Int×Int×Str))×List Str)):zipGet.l0 (n+1) t=zipGet.l0.step (zipGet.l0 n) t:=rfl
def zipGet (text:Str):Option (Bool×List (Str×Int×Int×Int×Int×Int×Int×Str)):=
 ((zipGet.l0 ((6-(([]:List (Str×Int×Int×Int×Int×Int×Int×Str)).length:Int)).toNat+1) (text,[],[])).bind fun (rest1,out1,locals1)=>
 (((zipOk out1).bind fun ZipOk=>
 (bif (!ZipOk) then (some true) else
 ((closing locals1).bind fun closing_=>
 (some (!(rest1==closing_)))))).bind fun c=>
 (bif c then (some (false,[])) else
 (some (true,out1)))))
def addEntry (name:Str) (y:Int) (mo:Int) (d:Int) (h:Int) (mi:Int) (sec:Int) (text:Str) (list:List (Str×Int×Int×Int×Int×Int×Int×Str)):Option (Int×List (Str×Int×Int×Int×Int×Int×Int×Str)):=
 ((entryOk name y mo d h mi sec text).bind fun EntryOk=>
 (bif (!EntryOk) then (some (1,[])) else
 ((namesOf list).bind fun namesOf_=>
 (need (fits (namesOf_.length+([name]:List (Str)).length)) ((apart (namesOf_++[name])).bind fun apart_=>
 (bif (!apart_) then (some (3,[])) else
 (bif ((list.length:Int)==6) then (some (4,[])) else
 (need (fits (list.length+([(name,y,mo,d,h,mi,sec,text)]:List (Str×Int×Int×Int×Int×Int×Int×Str)).length)) (some (0,(list++[(name,y,mo,d,h,mi,sec,text)])))))))))))
def find1 (ename:Str) (ey:Int) (emo:Int) (ed:Int) (eh:Int) (emi:Int) (esec:Int) (etext:Str) (name:Str):Option (Bool×Str):=
 (some ((ename==name),name))
def indexFuncE.l0.step (again:((List (Str×Int×Int×Int×Int×Int×Int×Str))×Int×Int×Str)→Option ((Str)⊕(Int×Str))):((List (Str×Int×Int×Int×Int×Int×Int×Str))×Int×Int×Str)→Option ((Str)⊕(Int×Str)):=fun (s,t,t1,o)=>
 (bif (decide (t1<t)) then (need (decide (0≤t1)&&decide (t1<s.length)) ((find1 ((s.getD t1.toNat ([],0,0,0,0,0,0,[])).1) ((s.getD t1.toNat ([],0,0,0,0,0,0,[])).2.1) ((s.getD t1.toNat ([],0,0,0,0,0,0,[])).2.2.1) ((s.getD t1.toNat ([],0,0,0,0,0,0,[])).2.2.2.1) ((s.getD t1.toNat ([],0,0,0,0,0,0,[])).2.2.2.2.1) ((s.getD t1.toNat ([],0,0,0,0,0,0,[])).2.2.2.2.2.1) ((s.getD t1.toNat ([],0,0,0,0,0,0,[])).2.2.2.2.2.2.1) ((s.getD t1.toNat ([],0,0,0,0,0,0,[])).2.2.2.2.2.2.2) o).bind fun (r,r1)=>
 (bif r then ((some (t1,r1)).map Sum.inr) else
 (again (s,t,(w64 (t1+1)),r1))))) else
 (some (.inl o)))
def indexFuncE.l0:Nat→((List (Str×Int×Int×Int×Int×Int×Int×Str))×Int×Int×Str)→Option ((Str)⊕(Int×Str)):=loopN (indexFuncE.l0.step)
theorem indexFuncE.l0.succ (n:Nat) (t:((List (Str×Int×Int×Int×Int×Int×Int×Str))×Int×Int×Str)):indexFuncE.l0 (n+1) t=indexFuncE.l0.step (indexFuncE.l0 n) t:=rfl
def indexFuncE (list:List (Str×Int×Int×Int×Int×Int×Int×Str)) (name:Str):Option (Int×Str):=
 ((indexFuncE.l0 (((list.length:Int)-(0:Int)).toNat+1) (list,(list.length:Int),0,name)).bind fun r=>match r with
 | .inl o1=>(some ((-1),o1))
 | .inr r=>some r)
def find (list:List (Str×Int×Int×Int×Int×Int×Int×Str)) (name:Str):Option (Int):=
 ((indexFuncE list name).bind fun (r,r1)=>
 (some r))
def deleteE (i:Int) (j:Int) (list:List (Str×Int×Int×Int×Int×Int×Int×Str)):Option (List (Str×Int×Int×Int×Int×Int×Int×Str)):=need (decide (0≤i)&&(decide (i≤j)&&decide (j≤list.length))) (some (list.take i.toNat++list.drop j.toNat))
def zipAdd1 (name:Str) (y:Int) (mo:Int) (d:Int) (h:Int) (mi:Int) (sec:Int) (text:Str) (list:List (Str×Int×Int×Int×Int×Int×Int×Str)):Option (Int×Str×Int×Int×Int×Int×Int×Int×Str×List (Str×Int×Int×Int×Int×Int×Int×Str)):=
 ((addEntry name y mo d h mi sec text list).bind fun (r,r1)=>
 (some (r,name,y,mo,d,h,mi,sec,text,r1)))
def zipSwap1 (name:Str) (y:Int) (mo:Int) (d:Int) (h:Int) (mi:Int) (sec:Int) (text:Str) (list:List (Str×Int×Int×Int×Int×Int×Int×Str)):Option (Int×Str×Int×Int×Int×Int×Int×Int×Str×List (Str×Int×Int×Int×Int×Int×Int×Str)):=
 ((find list name).bind fun find_=>
 ((entryOk name y mo d h mi sec text).bind fun EntryOk=>
 (bif (!EntryOk) then (some (1,name,y,mo,d,h,mi,sec,text,[])) else
 (bif (decide (find_<0)) then (some (2,name,y,mo,d,h,mi,sec,text,[])) else
 (need (decide (0≤find_)&&decide (find_<list.length)) (some (0,name,y,mo,d,h,mi,sec,text,(list.set find_.toNat (name,y,mo,d,h,mi,sec,text)))))))))
def zipDrop1 (name:Str) (list:List (Str×Int×Int×Int×Int×Int×Int×Str)):Option (Int×Str×List (Str×Int×Int×Int×Int×Int×Int×Str)):=
 ((find list name).bind fun find_=>
 (bif (decide (find_<0)) then (some (2,name,[])) else
 ((deleteE find_ (w64 (find_+1)) list).bind fun Entry=>
 (some (0,name,Entry)))))
def zipMove1 (name:Str) (to_:Str) (list:List (Str×Int×Int×Int×Int×Int×Int×Str)):Option (Int×Str×Str×List (Str×Int×Int×Int×Int×Int×Int×Str)):=
 ((find list name).bind fun find_=>
 ((implNameOk to_).bind fun NameOk=>
 (bif (!NameOk) then (some (1,name,to_,[])) else
 (bif (decide (find_<0)) then (some (2,name,to_,[])) else
 (need (decide (0≤find_)&&decide (find_<list.length)) ((namesOf (list.set find_.toNat (to_,(list.getD find_.toNat ([],0,0,0,0,0,0,[])).2.1,(list.getD find_.toNat ([],0,0,0,0,0,0,[])).2.2.1,(list.getD find_.toNat ([],0,0,0,0,0,0,[])).2.2.2.1,(list.getD find_.toNat ([],0,0,0,0,0,0,[])).2.2.2.2.1,(list.getD find_.toNat ([],0,0,0,0,0,0,[])).2.2.2.2.2.1,(list.getD find_.toNat ([],0,0,0,0,0,0,[])).2.2.2.2.2.2.1,(list.getD find_.toNat ([],0,0,0,0,0,0,[])).2.2.2.2.2.2.2))).bind fun namesOf_=>
 ((apart namesOf_).bind fun apart_=>
 (bif (!apart_) then (some (3,name,to_,[])) else
 (some (0,name,to_,(list.set find_.toNat (to_,(list.getD find_.toNat ([],0,0,0,0,0,0,[])).2.1,(list.getD find_.toNat ([],0,0,0,0,0,0,[])).2.2.1,(list.getD find_.toNat ([],0,0,0,0,0,0,[])).2.2.2.1,(list.getD find_.toNat ([],0,0,0,0,0,0,[])).2.2.2.2.1,(list.getD find_.toNat ([],0,0,0,0,0,0,[])).2.2.2.2.2.1,(list.getD find_.toNat ([],0,0,0,0,0,0,[])).2.2.2.2.2.2.1,(list.getD find_.toNat ([],0,0,0,0,0,0,[])).2.2.2.2.2.2.2))))))))))))
def zipJoin1.l0.step (again:(Int×Int×(List (Str×Int×Int×Int×Int×Int×Int×Str))×List (Str×Int×Int×Int×Int×Int×Int×Str))→Option (((List (Str×Int×Int×Int×Int×Int×Int×Str))×List (Str×Int×Int×Int×Int×Int×Int×Str))⊕(Int×(List (Str×Int×Int×Int×Int×Int×Int×Str))×List (Str×Int×Int×Int×Int×Int×Int×Str)))):(Int×Int×(List (Str×Int×Int×Int×Int×Int×Int×Str))×List (Str×Int×Int×Int×Int×Int×Int×Str))→Option (((List (Str×Int×Int×Int×Int×Int×Int×Str))×List (Str×Int×Int×Int×Int×Int×Int×Str))⊕(Int×(List (Str×Int×Int×Int×Int×Int×Int×Str))×List (Str×Int×Int×Int×Int×Int×Int×Str))):=fun (t,t1,o,list1)=>
 (bif (decide (t1<t)) then (need (decide (0≤t1)&&decide (t1<o.length)) ((addEntry ((o.getD t1.toNat ([],0,0,0,0,0,0,[])).1) ((o.getD t1.toNat ([],0,0,0,0,0,0,[])).2.1) ((o.getD t1.toNat ([],0,0,0,0,0,0,[])).2.2.1) ((o.getD t1.toNat ([],0,0,0,0,0,0,[])).2.2.2.1) ((o.getD t1.toNat ([],0,0,0,0,0,0,[])).2.2.2.2.1) ((o.getD t1.toNat ([],0,0,0,0,0,0,[])).2.2.2.2.2.1) ((o.getD t1.toNat ([],0,0,0,0,0,0,[])).2.2.2.2.2.2.1) ((o.getD t1.toNat ([],0,0,0,0,0,0,[])).2.2.2.2.2.2.2) list1).bind fun (r,r1)=>
 (bif (r != 0) then ((some (r,o,[])).map Sum.inr) else
 (again (t,(w64 (t1+1)),o,r1))))) else
 (some (.inl (o,list1))))
def zipJoin1.l0:Nat→(Int×Int×(List (Str×Int×Int×Int×Int×Int×Int×Str))×List (Str×Int×Int×Int×Int×Int×Int×Str))→Option (((List (Str×Int×Int×Int×Int×Int×Int×Str))×List (Str×Int×Int×Int×Int×Int×Int×Str))⊕(Int×(List (Str×Int×Int×Int×Int×Int×Int×Str))×List (Str×Int×Int×Int×Int×Int×Int×Str))):=loopN (zipJoin1.l0.step)
theorem zipJoin1.l0.succ (n:Nat) (t:(Int×Int×(List (Str×Int×Int×Int×Int×Int×Int×Str))×List (Str×Int×Int×Int×Int×Int×Int×Str))):zipJoin1.l0 (n+1) t=zipJoin1.l0.step (zipJoin1.l0 n) t:=rfl
def zipJoin1 (more:List (Str×Int×Int×Int×Int×Int×Int×Str)) (list:List (Str×Int×Int×Int×Int×Int×Int×Str)):Option (Int×(List (Str×Int×Int×Int×Int×Int×Int×Str))×List (Str×Int×Int×Int×Int×Int×Int×Str)):=
 ((zipJoin1.l0 (((more.length:Int)-(0:Int)).toNat+1) ((more.length:Int),0,more,list)).bind fun r=>match r with
 | .inl (o1,list2)=>(some (0,o1,list2))
 | .inr r=>some r)
def editAdd (text:Str) (name:Str) (y:Int) (mo:Int) (d:Int) (h:Int) (mi:Int) (sec:Int) (text1:Str):Option (Str×Int×Str×Int×Int×Int×Int×Int×Int×Str):=
 ((zipGet text).bind fun (r,r1)=>
 (bif (!r) then (some ([],1,name,y,mo,d,h,mi,sec,text1)) else
 ((zipAdd1 name y mo d h mi sec text1 r1).bind fun (r2,r3,r4,r5,r6,r7,r8,r9,r10,r11)=>
 (bif (r2 != 0) then (some (text,r2,r3,r4,r5,r6,r7,r8,r9,r10)) else
 ((zipPut r11).bind fun ZipPut=>
 (some (ZipPut,0,r3,r4,r5,r6,r7,r8,r9,r10)))))))
def editSwap (text:Str) (name:Str) (y:Int) (mo:Int) (d:Int) (h:Int) (mi:Int) (sec:Int) (text1:Str):Option (Str×Int×Str×Int×Int×Int×Int×Int×Int×Str):=
 ((zipGet text).bind fun (r,r1)=>
 (bif (!r) then (some ([],1,name,y,mo,d,h,mi,sec,text1)) else
 ((zipSwap1 name y mo d h mi sec text1 r1).bind fun (r2,r3,r4,r5,r6,r7,r8,r9,r10,r11)=>
 (bif (r2 != 0) then (some (text,r2,r3,r4,r5,r6,r7,r8,r9,r10)) else
 ((zipPut r11).bind fun ZipPut=>
 (some (ZipPut,0,r3,r4,r5,r6,r7,r8,r9,r10)))))))
def editDrop (text:Str) (name:Str):Option (Str×Int×Str):=
 ((zipGet text).bind fun (r,r1)=>
 (bif (!r) then (some ([],1,name)) else
 ((zipDrop1 name r1).bind fun (r2,r3,r4)=>
 (bif (r2 != 0) then (some (text,r2,r3)) else
 ((zipPut r4).bind fun ZipPut=>
 (some (ZipPut,0,r3)))))))
def editMove (text:Str) (name:Str) (to_:Str):Option (Str×Int×Str×Str):=
 ((zipGet text).bind fun (r,r1)=>
 (bif (!r) then (some ([],1,name,to_)) else
 ((zipMove1 name to_ r1).bind fun (r2,r3,r4,r5)=>
 (bif (r2 != 0) then (some (text,r2,r3,r4)) else
 ((zipPut r5).bind fun ZipPut=>
 (some (ZipPut,0,r3,r4)))))))
def editJoin (text:Str) (more:List (Str×Int×Int×Int×Int×Int×Int×Str)):Option (Str×Int×List (Str×Int×Int×Int×Int×Int×Int×Str)):=
 ((zipGet text).bind fun (r,r1)=>
 (bif (!r) then (some ([],1,more)) else
 ((zipJoin1 more r1).bind fun (r2,r3,r4)=>
 (bif (r2 != 0) then (some (text,r2,r3)) else
 ((zipPut r4).bind fun ZipPut=>
 (some (ZipPut,0,r3)))))))
def zipAdd (text:Str) (ename:Str) (ey:Int) (emo:Int) (ed:Int) (eh:Int) (emi:Int) (esec:Int) (etext:Str):Option (Str×Int):=
 (orElse (editAdd text ename ey emo ed eh emi esec etext) (fun (r,r1,r2,r3,r4,r5,r6,r7,r8,r9)=>
 (some (r,r1))) none)
def zipSwap (text:Str) (ename:Str) (ey:Int) (emo:Int) (ed:Int) (eh:Int) (emi:Int) (esec:Int) (etext:Str):Option (Str×Int):=
 (orElse (editSwap text ename ey emo ed eh emi esec etext) (fun (r,r1,r2,r3,r4,r5,r6,r7,r8,r9)=>
 (some (r,r1))) none)
def zipDrop (text:Str) (name:Str):Option (Str×Int):=
 (orElse (editDrop text name) (fun (r,r1,r2)=>
 (some (r,r1))) none)
def zipMove (text:Str) (name:Str) (to_:Str):Option (Str×Int):=
 (orElse (editMove text name to_) (fun (r,r1,r2,r3)=>
 (some (r,r1))) none)
def zipJoin (a:Str) (b:Str):Option (Str×Int):=
 ((zipGet b).bind fun (r,r1)=>
 (bif (!r) then (some ([],1)) else
 ((editJoin a r1).bind fun (r2,r3,r4)=>
 (some (r2,r3)))))
def l1Pow.l0.step (again:(Int×Int)→Option (Int)):(Int×Int)→Option (Int):=fun (n1,out)=>
 (bif (decide (n1>0)) then (again ((w64 (n1-1)),(w64 (2*out)))) else
 (some out))
def l1Pow.l0:Nat→(Int×Int)→Option (Int):=loopN (l1Pow.l0.step)
theorem l1Pow.l0.succ (n:Nat) (t:(Int×Int)):l1Pow.l0 (n+1) t=l1Pow.l0.step (l1Pow.l0 n) t:=rfl
def l1Pow (n:Int):Option (Int):=
 ((l1Pow.l0 ((n-0).toNat+1) (n,1)).bind fun out1=>
 (some out1))
def oPut.l0.step (again:(Int×Int×Int×Int×Int×List Int)→Option (Int×Int×List Int)):(Int×Int×Int×Int×Int×List Int)→Option (Int×Int×List Int):=fun (num1,bits1,k,o,o1,o2)=>
 (bif (decide (k<bits1)) then ((l1Pow o1).bind fun l1Pow_=>
 (bif ((w64 (o1+1))==8) then (need (fits (o2.length+([(IntKind.wrap .u8 (w64 (o+(w64 ((num1.tmod 2)*l1Pow_)))))]:List (Int)).length)) (again ((w64 (num1.tdiv 2)),bits1,(w64 (k+1)),0,0,(o2++[(IntKind.wrap .u8 (w64 (o+(w64 ((num1.tmod 2)*l1Pow_)))))])))) else
 (again ((w64 (num1.tdiv 2)),bits1,(w64 (k+1)),(w64 (o+(w64 ((num1.tmod 2)*l1Pow_)))),(w64 (o1+1)),o2)))) else
 (some (o,o1,o2)))
def oPut.l0:Nat→(Int×Int×Int×Int×Int×List Int)→Option (Int×Int×List Int):=loopN (oPut.l0.step)
theorem oPut.l0.succ (n:Nat) (t:(Int×Int×Int×Int×Int×List Int)):oPut.l0 (n+1) t=oPut.l0.step (oPut.l0 n) t:=rfl
def oPut (num:Int) (bits:Int) (last:Int) (fill:Int) (text:List Int):Option (Int×Int×List Int):=
 ((oPut.l0 ((bits-(0:Int)).toNat+1) (num,bits,0,last,fill,text)).bind fun (o3,o4,o5)=>
 (some (o3,o4,o5)))
def oWhole (last:Int) (fill:Int) (text:List Int):Option (Int×Int×List Int):=
 (bif (decide (fill>0)) then ((oPut 0 (w64 (8-fill)) last fill text).bind fun (r,r1,r2)=>
 (some (r,r1,r2))) else
 (some (last,fill,text)))
def sBit (s:Str) (at_:Int) (bad:Bool):Option (Int×Str×Int×Bool):=
 (bif (decide (at_≥(w64 (8*(s.length:Int))))) then (some (0,s,at_,true)) else
 (need (decide (0≤(w64 (at_.tdiv 8)))&&decide ((w64 (at_.tdiv 8))<s.length)) ((l1Pow (at_.tmod 8)).bind fun l1Pow_=>
 (need (l1Pow_ != 0) (some (((w64 ((w64 ((s.getD (w64 (at_.tdiv 8)).toNat 0).toNat:Int)).tdiv l1Pow_)).tmod 2),s,(w64 (at_+1)),bad))))))
def sNum.l0.step (again:(Int×Int×Int×Str×Int×Bool)→Option (Int×Str×Int×Bool)):(Int×Int×Int×Str×Int×Bool)→Option (Int×Str×Int×Bool):=fun (bits1,n,k,o,o1,o2)=>
 (bif (decide (k<bits1)) then ((sBit o o1 o2).bind fun (r,r1,r2,r3)=>
 ((l1Pow k).bind fun l1Pow_=>
 (again (bits1,(w64 (n+(w64 (r*l1Pow_)))),(w64 (k+1)),r1,r2,r3)))) else
 (some (n,o,o1,o2)))
def sNum.l0:Nat→(Int×Int×Int×Str×Int×Bool)→Option (Int×Str×Int×Bool):=loopN (sNum.l0.step)
theorem sNum.l0.succ (n:Nat) (t:(Int×Int×Int×Str×Int×Bool)):sNum.l0 (n+1) t=sNum.l0.step (sNum.l0 n) t:=rfl
def sNum (bits:Int) (s:Str) (at_:Int) (bad:Bool):Option (Int×Str×Int×Bool):=
 ((sNum.l0 ((bits-(0:Int)).toNat+1) (bits,0,0,s,at_,bad)).bind fun (n1,o3,o4,o5)=>
 (some (n1,o3,o4,o5)))
def sWhole.l0.step (again:(Int×Str×Int×Bool)→Option (Int×Str×Int×Bool)):(Int×Str×Int×Bool)→Option (Int×Str×Int×Bool):=fun (n,o,o1,o2)=>
 (bif ((o1.tmod 8) != 0) then ((sBit o o1 o2).bind fun (r,r1,r2,r3)=>
 (again ((w64 (n+r)),r1,r2,r3))) else
 (some (n,o,o1,o2)))
def sWhole.l0:Nat→(Int×Str×Int×Bool)→Option (Int×Str×Int×Bool):=loopN (sWhole.l0.step)
theorem sWhole.l0.succ (n:Nat) (t:(Int×Str×Int×Bool)):sWhole.l0 (n+1) t=sWhole.l0.step (sWhole.l0 n) t:=rfl
def sWhole (s:Str) (at_:Int) (bad:Bool):Option (Bool×Str×Int×Bool):=
 ((sWhole.l0 (9) (0,s,at_,bad)).bind fun (n1,o3,o4,o5)=>
 (some ((n1==0),o3,o4,o5)))
def l1Turn.l0.step (again:(Int×Int×Int×Int)→Option (Int)):(Int×Int×Int×Int)→Option (Int):=fun (num1,bits1,n,k)=>
 (bif (decide (k<bits1)) then (again ((w64 (num1.tdiv 2)),bits1,(w64 ((w64 (2*n))+(num1.tmod 2))),(w64 (k+1)))) else
 (some n))
def l1Turn.l0:Nat→(Int×Int×Int×Int)→Option (Int):=loopN (l1Turn.l0.step)
theorem l1Turn.l0.succ (n:Nat) (t:(Int×Int×Int×Int)):l1Turn.l0 (n+1) t=l1Turn.l0.step (l1Turn.l0 n) t:=rfl
def l1Turn (num:Int) (bits:Int):Option (Int):=
 ((l1Turn.l0 ((bits-(0:Int)).toNat+1) (num,bits,0,0)).bind fun n1=>
 (some n1))
def l2Step.l0.step (again:(Int×Int)→Option (Int)):(Int×Int)→Option (Int):=fun (c1,k)=>
 (bif (decide (k<8)) then (bif ((c1.tmod 2)==1) then (again ((ixor .u32 (IntKind.wrap .u32 (c1.tdiv 2)) 3988292384),(w64 (k+1)))) else
 (again ((IntKind.wrap .u32 (c1.tdiv 2)),(w64 (k+1))))) else
 (some c1))
def l2Step.l0:Nat→(Int×Int)→Option (Int):=loopN (l2Step.l0.step)
theorem l2Step.l0.succ (n:Nat) (t:(Int×Int)):l2Step.l0 (n+1) t=l2Step.l0.step (l2Step.l0 n) t:=rfl
def l2Step (c:Int) (b:Int):Option (Int):=
 ((l2Step.l0 ((8-(0:Int)).toNat+1) ((ixor .u32 c (IntKind.wrap .u32 b)),0)).bind fun c2=>
 (some c2))
def l2More.l0.step (again:(Str×Int×Int)→Option (Int)):(Str×Int×Int)→Option (Int):=fun (text1,c,i)=>
 (bif (decide (i<(text1.length:Int))) then (need (decide (0≤i)&&decide (i<text1.length)) ((l2Step c ((text1.getD i.toNat 0).toNat:Int)).bind fun l2Step_=>
 (again (text1,l2Step_,(w64 (i+1)))))) else
 (some c))
def l2More.l0:Nat→(Str×Int×Int)→Option (Int):=loopN (l2More.l0.step)
theorem l2More.l0.succ (n:Nat) (t:(Str×Int×Int)):l2More.l0 (n+1) t=l2More.l0.step (l2More.l0 n) t:=rfl
def l2More (crc_:Int) (text:Str):Option (Int):=
 ((l2More.l0 (((text.length:Int)-(0:Int)).toNat+1) (text,(ixor .u32 crc_ 4294967295),0)).bind fun c1=>
 (some (ixor .u32 c1 4294967295)))
def specCrc (text:Str):Option (Int):=
 ((l2More 0 text).bind fun l2More_=>
 (some (w64 l2More_)))
def l3Used.l0.step (again:(List Int×Int×Int)→Option (Int)):(List Int×Int×Int)→Option (Int):=fun (lens1,n,i)=>
 (bif (decide (i<(lens1.length:Int))) then (need (decide (0≤i)&&decide (i<lens1.length)) (bif (decide ((lens1.getD i.toNat 0)>0)) then (again (lens1,(w64 (n+1)),(w64 (i+1)))) else
 (again (lens1,n,(w64 (i+1)))))) else
 (some n))
def l3Used.l0:Nat→(List Int×Int×Int)→Option (Int):=loopN (l3Used.l0.step)
theorem l3Used.l0.succ (n:Nat) (t:(List Int×Int×Int)):l3Used.l0 (n+1) t=l3Used.l0.step (l3Used.l0 n) t:=rfl
def l3Used (lens:List Int):Option (Int):=
 ((l3Used.l0 (((lens.length:Int)-(0:Int)).toNat+1) (lens,0,0)).bind fun n1=>
 (some n1))
def specLensOk.l0.step (again:(List Int×Int×Int)→Option ((List Int×Int)⊕(Bool))):(List Int×Int×Int)→Option ((List Int×Int)⊕(Bool)):=fun (lens1,sum,i)=>
 (bif (decide (i<(lens1.length:Int))) then (need (decide (0≤i)&&decide (i<lens1.length)) ((l1In (lens1.getD i.toNat 0) 0 15).bind fun l1In_=>
 (bif (!l1In_) then ((some false).map Sum.inr) else
 (need (decide (0≤i)&&decide (i<lens1.length)) (bif (decide ((lens1.getD i.toNat 0)>0)) then (need (decide (0≤i)&&decide (i<lens1.length)) ((l1Pow (w64 (15-(lens1.getD i.toNat 0)))).bind fun l1Pow_=>
 (again (lens1,(w64 (sum+l1Pow_)),(w64 (i+1)))))) else
 (again (lens1,sum,(w64 (i+1))))))))) else
 (some (.inl (lens1,sum))))
def specLensOk.l0:Nat→(List Int×Int×Int)→Option ((List Int×Int)⊕(Bool)):=loopN (specLensOk.l0.step)
theorem specLensOk.l0.succ (n:Nat) (t:(List Int×Int×Int)):specLensOk.l0 (n+1) t=specLensOk.l0.step (specLensOk.l0 n) t:=rfl
def specLensOk (lens:List Int):Option (Bool):=
 ((specLensOk.l0 (((lens.length:Int)-(0:Int)).toNat+1) (lens,0,0)).bind fun r=>match r with
 | .inl (lens2,sum1)=>(((l3Used lens2).bind fun l3Used_=>
 (bif (l3Used_==1) then ((l1Pow 14).bind fun l1Pow_1=>
 (some (sum1==l1Pow_1))) else
 (some false))).bind fun one=>
 ((bif (decide ((lens2.length:Int)≤300)) then ((l1Pow 15).bind fun l1Pow_2=>
 (bif (sum1==l1Pow_2) then (some true) else
 (some one))) else
 (some false)).bind fun c=>
 (some c)))
 | .inr r=>some r)
def l3Codes.l0.step (again:(List Int×Int×Int×Int×List Int)→Option (List Int×Int×Int×List Int)):(List Int×Int×Int×Int×List Int)→Option (List Int×Int×Int×List Int):=fun (lens2,code_1,n1,i,out1)=>
 (bif (decide (i<(lens2.length:Int))) then (need (decide (0≤i)&&decide (i<lens2.length)) (bif ((lens2.getD i.toNat 0)==n1) then (need (decide (0≤i)&&decide (i<out1.length)) (again (lens2,(w64 (code_1+1)),n1,(w64 (i+1)),(out1.set i.toNat code_1)))) else
 (again (lens2,code_1,n1,(w64 (i+1)),out1)))) else
 (some (lens2,code_1,n1,out1)))
def l3Codes.l0:Nat→(List Int×Int×Int×Int×List Int)→Option (List Int×Int×Int×List Int):=loopN (l3Codes.l0.step)
theorem l3Codes.l0.succ (n:Nat) (t:(List Int×Int×Int×Int×List Int)):l3Codes.l0 (n+1) t=l3Codes.l0.step (l3Codes.l0 n) t:=rfl
def l3Codes.l1.step (again:(List Int×Int×Int×List Int)→Option (List Int)):(List Int×Int×Int×List Int)→Option (List Int):=fun (lens1,code_,n,out)=>
 (bif (decide (n≤15)) then ((l3Codes.l0 (((lens1.length:Int)-(0:Int)).toNat+1) (lens1,code_,n,0,out)).bind fun (lens3,code_2,n2,out2)=>
 (again (lens3,(w64 (2*code_2)),(w64 (n2+1)),out2))) else
 (some out))
def l3Codes.l1:Nat→(List Int×Int×Int×List Int)→Option (List Int):=loopN (l3Codes.l1.step)
theorem l3Codes.l1.succ (n:Nat) (t:(List Int×Int×Int×List Int)):l3Codes.l1 (n+1) t=l3Codes.l1.step (l3Codes.l1 n) t:=rfl
def l3Codes (lens:List Int):Option (List Int):=
 (need (decide (0≤(lens.length:Int))&&fits (lens.length:Int).toNat) ((l3Codes.l1 ((15-(1:Int)).toNat+2) (lens,0,1,(List.replicate (lens.length:Int).toNat (0:Int)))).bind fun out3=>
 (some out3)))
def l3Least.l0.step (again:((List (Int×Int×List Int))×Int×Int)→Option (Int)):((List (Int×Int×List Int))×Int×Int)→Option (Int):=fun (list1,at_,i)=>
 (bif (decide (i<(list1.length:Int))) then ((need (decide (0≤i)&&decide (i<list1.length)) (need (decide (0≤at_)&&decide (at_<list1.length)) (bif (decide ((list1.getD i.toNat (0,0,[])).1<(list1.getD at_.toNat (0,0,[])).1)) then (some true) else
 (need (decide (0≤i)&&decide (i<list1.length)) (need (decide (0≤at_)&&decide (at_<list1.length)) (bif ((list1.getD i.toNat (0,0,[])).1==(list1.getD at_.toNat (0,0,[])).1) then (need (decide (0≤i)&&decide (i<list1.length)) (need (decide (0≤at_)&&decide (at_<list1.length)) (some (decide ((list1.getD i.toNat (0,0,[])).2.1<(list1.getD at_.toNat (0,0,[])).2.1))))) else
 (some false))))))).bind fun c=>
 (bif c then (again (list1,i,(w64 (i+1)))) else
 (again (list1,at_,(w64 (i+1)))))) else
 (some at_))
def l3Least.l0:Nat→((List (Int×Int×List Int))×Int×Int)→Option (Int):=loopN (l3Least.l0.step)
theorem l3Least.l0.succ (n:Nat) (t:((List (Int×Int×List Int))×Int×Int)):l3Least.l0 (n+1) t=l3Least.l0.step (l3Least.l0 n) t:=rfl
def l3Least (list:List (Int×Int×List Int)):Option (Int):=
 ((l3Least.l0 (((list.length:Int)-(1:Int)).toNat+1) (list,0,1)).bind fun at_1=>
 (some at_1))
def l3Less (list:List (Int×Int×List Int)) (at_:Int):Option (List (Int×Int×List Int)):=
 (need (decide (0≤at_)&&decide (at_≤list.length)) (need (fits (([]:List (Int×Int×List Int)).length+(list.take at_.toNat).length)) (need (decide (0≤(w64 (at_+1)))&&decide ((w64 (at_+1))≤list.length)) (need (fits (([]++(list.take at_.toNat)).length+(list.drop (w64 (at_+1)).toNat).length)) (some (([]++(list.take at_.toNat))++(list.drop (w64 (at_+1)).toNat)))))))
def l3Lens.l1.step (again:(Int×Int×List Int×(List (Int×Int×List Int))×Int×Int×List Int×Int×Int×List Int×List Int)→Option (Int×List Int×(List (Int×Int×List Int))×Int×Int×List Int×Int×Int×List Int×List Int)):(Int×Int×List Int×(List (Int×Int×List Int))×Int×Int×List Int×Int×Int×List Int×List Int)→Option (Int×List Int×(List (Int×Int×List Int))×Int×Int×List Int×Int×Int×List Int×List Int):=fun (first1,i1,out5,list5,o6,o7,o8,o9,o10,o11,syms)=>
 (bif (decide (i1<(syms.length:Int))) then (need (decide (0≤i1)&&decide (i1<syms.length)) (need (decide (0≤i1)&&decide (i1<syms.length)) (need (decide (0≤(syms.getD i1.toNat 0))&&decide ((syms.getD i1.toNat 0)<out5.length)) (need (decide (0≤(syms.getD i1.toNat 0))&&decide ((syms.getD i1.toNat 0)<out5.length)) (again (first1,(w64 (i1+1)),(out5.set ((syms.getD i1.toNat 0).toNat) (w64 ((out5.getD ((syms.getD i1.toNat 0).toNat) 0)+1))),list5,o6,o7,o8,o9,o10,o11,syms)))))) else
 (some (first1,out5,list5,o6,o7,o8,o9,o10,o11,syms)))
def l3Lens.l1:Nat→(Int×Int×List Int×(List (Int×Int×List Int))×Int×Int×List Int×Int×Int×List Int×List Int)→Option (Int×List Int×(List (Int×Int×List Int))×Int×Int×List Int×Int×Int×List Int×List Int):=loopN (l3Lens.l1.step)
theorem l3Lens.l1.succ (n:Nat) (t:(Int×Int×List Int×(List (Int×Int×List Int))×Int×Int×List Int×Int×Int×List Int×List Int)):l3Lens.l1 (n+1) t=l3Lens.l1.step (l3Lens.l1 n) t:=rfl
def l3Lens.l2.step (again:(List Int×List (Int×Int×List Int))→Option (List Int)):(List Int×List (Int×Int×List Int))→Option (List Int):=fun (out3,list3)=>
 (bif (decide ((list3.length:Int)>1)) then ((l3Least list3).bind fun l3Least_=>
 (need (decide (0≤l3Least_)&&decide (l3Least_<list3.length)) ((l3Less list3 l3Least_).bind fun l3Less_=>
 ((l3Least l3Less_).bind fun l3Least_1=>
 (need (decide (0≤l3Least_1)&&decide (l3Least_1<l3Less_.length)) ((l3Less l3Less_ l3Least_1).bind fun l3Less_1=>
 (((bif (decide ((l3Less_.getD l3Least_1.toNat (0,0,[])).2.1<(list3.getD l3Least_.toNat (0,0,[])).2.1)) then (some ((l3Less_.getD l3Least_1.toNat (0,0,[])).2.1,out3,l3Less_1,(list3.getD l3Least_.toNat (0,0,[])).1,(list3.getD l3Least_.toNat (0,0,[])).2.1,(list3.getD l3Least_.toNat (0,0,[])).2.2,(l3Less_.getD l3Least_1.toNat (0,0,[])).1,(l3Less_.getD l3Least_1.toNat (0,0,[])).2.1,(l3Less_.getD l3Least_1.toNat (0,0,[])).2.2)) else
 (some ((list3.getD l3Least_.toNat (0,0,[])).2.1,out3,l3Less_1,(list3.getD l3Least_.toNat (0,0,[])).1,(list3.getD l3Least_.toNat (0,0,[])).2.1,(list3.getD l3Least_.toNat (0,0,[])).2.2,(l3Less_.getD l3Least_1.toNat (0,0,[])).1,(l3Less_.getD l3Least_1.toNat (0,0,[])).2.1,(l3Less_.getD l3Least_1.toNat (0,0,[])).2.2))):Option (Int×List Int×(List (Int×Int×List Int))×Int×Int×List Int×Int×Int×List Int)).bind fun (first,out4,list4,o,o1,o2,o3,o4,o5)=>
 (need (fits (([]:List (Int)).length+o2.length)) (need (fits (([]++o2).length+o5.length)) ((l3Lens.l1 ((((([]++o2)++o5).length:Int)-(0:Int)).toNat+1) (first,0,out4,list4,o,o1,o2,o3,o4,o5,(([]++o2)++o5))).bind fun (first2,out6,list6,o12,o13,o14,o15,o16,o17,syms1)=>
 (need (fits (list6.length+([((w64 (o12+o15)),first2,syms1)]:List (Int×Int×List Int)).length)) (again (out6,(list6++[((w64 (o12+o15)),first2,syms1)])))))))))))))) else
 (some out3))
def l3Lens.l2:Nat→(List Int×List (Int×Int×List Int))→Option (List Int):=loopN (l3Lens.l2.step)
theorem l3Lens.l2.succ (n:Nat) (t:(List Int×List (Int×Int×List Int))):l3Lens.l2 (n+1) t=l3Lens.l2.step (l3Lens.l2 n) t:=rfl
def l3Lens.l0.step (again:(List Int×Int×List Int×List (Int×Int×List Int))→Option (List Int×List (Int×Int×List Int))):(List Int×Int×List Int×List (Int×Int×List Int))→Option (List Int×List (Int×Int×List Int)):=fun (counts1,i,out,list)=>
 (bif (decide (i<(counts1.length:Int))) then (need (decide (0≤i)&&decide (i<counts1.length)) (bif (decide ((counts1.getD i.toNat 0)>0)) then (need (decide (0≤i)&&decide (i<counts1.length)) (need (fits (list.length+([((counts1.getD i.toNat 0),i,[i])]:List (Int×Int×List Int)).length)) (again (counts1,(w64 (i+1)),out,(list++[((counts1.getD i.toNat 0),i,[i])]))))) else
 (again (counts1,(w64 (i+1)),out,list)))) else
 (some (out,list)))
def l3Lens.l0:Nat→(List Int×Int×List Int×List (Int×Int×List Int))→Option (List Int×List (Int×Int×List Int)):=loopN (l3Lens.l0.step)
theorem l3Lens.l0.succ (n:Nat) (t:(List Int×Int×List Int×List (Int×Int×List Int))):l3Lens.l0 (n+1) t=l3Lens.l0.step (l3Lens.l0 n) t:=rfl
def l3Lens (counts:List Int):Option (List Int):=
 (need (decide (0≤(counts.length:Int))&&fits (counts.length:Int).toNat) ((l3Lens.l0 (((counts.length:Int)-(0:Int)).toNat+1) (counts,0,(List.replicate (counts.length:Int).toNat (0:Int)),[])).bind fun (out1,list1)=>
 (((bif ((list1.length:Int)==1) then (need (decide (0≤(0:Int))&&decide ((0:Int)<list1.length)) (need (decide (0≤(list1.getD 0 (0,0,[])).2.1)&&decide ((list1.getD 0 (0,0,[])).2.1<out1.length)) (some ((out1.set (((list1.getD 0 (0,0,[])).2.1).toNat) 1),list1)))) else
 (some (out1,list1))):Option (List Int×List (Int×Int×List Int))).bind fun (out2,list2)=>
 ((l3Lens.l2 (((list2.length:Int)-1).toNat+1) (out2,list2)).bind fun out7=>
 (some out7)))))
def l3Most.l0.step (again:(List Int×Int×Int)→Option (Int)):(List Int×Int×Int)→Option (Int):=fun (lens1,n,i)=>
 (bif (decide (i<(lens1.length:Int))) then (need (decide (0≤i)&&decide (i<lens1.length)) (bif (decide ((lens1.getD i.toNat 0)>n)) then (need (decide (0≤i)&&decide (i<lens1.length)) (again (lens1,(lens1.getD i.toNat 0),(w64 (i+1))))) else
 (again (lens1,n,(w64 (i+1)))))) else
 (some n))
def l3Most.l0:Nat→(List Int×Int×Int)→Option (Int):=loopN (l3Most.l0.step)
theorem l3Most.l0.succ (n:Nat) (t:(List Int×Int×Int)):l3Most.l0 (n+1) t=l3Most.l0.step (l3Most.l0 n) t:=rfl
def l3Most (lens:List Int):Option (Int):=
 ((l3Most.l0 (((lens.length:Int)-(0:Int)).toNat+1) (lens,0,0)).bind fun n1=>
 (some n1))
def l3Fit.l0.step (again:(Int×Int×List Int)→Option (Int×List Int)):(Int×Int×List Int)→Option (Int×List Int):=fun (most2,i,list1)=>
 (bif (decide (i<(list1.length:Int))) then (need (decide (0≤i)&&decide (i<list1.length)) (need (decide (0≤i)&&decide (i<list1.length)) (again (most2,(w64 (i+1)),(list1.set i.toNat (w64 ((w64 ((list1.getD i.toNat 0)+1)).tdiv 2))))))) else
 (some (most2,list1)))
def l3Fit.l0:Nat→(Int×Int×List Int)→Option (Int×List Int):=loopN (l3Fit.l0.step)
theorem l3Fit.l0.succ (n:Nat) (t:(Int×Int×List Int)):l3Fit.l0 (n+1) t=l3Fit.l0.step (l3Fit.l0 n) t:=rfl
def l3Fit.l1.step (again:(Int×List Int×List Int)→Option (List Int)):(Int×List Int×List Int)→Option (List Int):=fun (most1,list,out)=>
 ((l3Most out).bind fun l3Most_=>
 (bif (decide (l3Most_>most1)) then ((l3Fit.l0 (((list.length:Int)-(0:Int)).toNat+1) (most1,0,list)).bind fun (most3,list2)=>
 ((l3Lens list2).bind fun l3Lens_1=>
 (again (most3,list2,l3Lens_1)))) else
 (some out)))
def l3Fit.l1:Nat→(Int×List Int×List Int)→Option (List Int):=loopN (l3Fit.l1.step)
theorem l3Fit.l1.succ (n:Nat) (t:(Int×List Int×List Int)):l3Fit.l1 (n+1) t=l3Fit.l1.step (l3Fit.l1 n) t:=rfl
def l3Fit (counts:List Int) (most:Int):Option (List Int):=
 (need (fits (([]:List (Int)).length+counts.length)) ((l3Lens ([]++counts)).bind fun l3Lens_=>
 ((l3Fit.l1 (100000) (most,([]++counts),l3Lens_)).bind fun out1=>
 (some out1))))
def l3Piece (lens:List Int) (codes_:List Int) (sym:Int):Option (Int×Int):=
 (need (decide (0≤sym)&&decide (sym<codes_.length)) (need (decide (0≤sym)&&decide (sym<lens.length)) ((l1Turn (codes_.getD sym.toNat 0) (lens.getD sym.toNat 0)).bind fun l1Turn_=>
 (need (decide (0≤sym)&&decide (sym<lens.length)) (some (l1Turn_,(lens.getD sym.toNat 0)))))))
def sSymbol.l0.step (again:(List Int×List Int×Int×Int×Int×Str×Int×Bool)→Option ((List Int×List Int×Int×Int×Str×Int×Bool)⊕((Str×Int×Bool)⊕(Int×Str×Int×Bool)))):(List Int×List Int×Int×Int×Int×Str×Int×Bool)→Option ((List Int×List Int×Int×Int×Str×Int×Bool)⊕((Str×Int×Bool)⊕(Int×Str×Int×Bool))):=fun (lens2,codes_2,code_1,n1,i,o3,o4,o5)=>
 (bif (decide (i<(lens2.length:Int))) then ((need (decide (0≤i)&&decide (i<lens2.length)) (bif ((lens2.getD i.toNat 0)==n1) then (need (decide (0≤i)&&decide (i<codes_2.length)) (some ((codes_2.getD i.toNat 0)==code_1))) else
 (some false))).bind fun c1=>
 (bif c1 then (((some (i,o3,o4,o5)).map Sum.inr).map Sum.inr) else
 (again (lens2,codes_2,code_1,n1,(w64 (i+1)),o3,o4,o5)))) else
 (some (.inl (lens2,codes_2,code_1,n1,o3,o4,o5))))
def sSymbol.l0:Nat→(List Int×List Int×Int×Int×Int×Str×Int×Bool)→Option ((List Int×List Int×Int×Int×Str×Int×Bool)⊕((Str×Int×Bool)⊕(Int×Str×Int×Bool))):=loopN (sSymbol.l0.step)
theorem sSymbol.l0.succ (n:Nat) (t:(List Int×List Int×Int×Int×Int×Str×Int×Bool)):sSymbol.l0 (n+1) t=sSymbol.l0.step (sSymbol.l0 n) t:=rfl
def sSymbol.l1.step (again:(List Int×List Int×Int×Int×Str×Int×Bool)→Option ((Str×Int×Bool)⊕(Int×Str×Int×Bool))):(List Int×List Int×Int×Int×Str×Int×Bool)→Option ((Str×Int×Bool)⊕(Int×Str×Int×Bool)):=fun (lens1,codes_1,code_,n,o,o1,o2)=>
 ((bif (decide (n≤15)) then (some (!o2)) else
 (some false)).bind fun c=>
 (bif c then ((sBit o o1 o2).bind fun (r,r1,r2,r3)=>
 ((sSymbol.l0 (((lens1.length:Int)-(0:Int)).toNat+1) (lens1,codes_1,(w64 ((w64 (2*code_))+r)),n,0,r1,r2,r3)).bind fun r=>match r with
 | .inl (lens3,codes_3,code_2,n2,o6,o7,o8)=>(again (lens3,codes_3,code_2,(w64 (n2+1)),o6,o7,o8))
 | .inr r=>some r)) else
 (some (.inl (o,o1,o2)))))
def sSymbol.l1:Nat→(List Int×List Int×Int×Int×Str×Int×Bool)→Option ((Str×Int×Bool)⊕(Int×Str×Int×Bool)):=loopN (sSymbol.l1.step)
theorem sSymbol.l1.succ (n:Nat) (t:(List Int×List Int×Int×Int×Str×Int×Bool)):sSymbol.l1 (n+1) t=sSymbol.l1.step (sSymbol.l1 n) t:=rfl
def sSymbol (lens:List Int) (codes_:List Int) (s:Str) (at_:Int) (bad:Bool):Option (Int×Str×Int×Bool):=
 ((sSymbol.l1 ((15-(1:Int)).toNat+2) (lens,codes_,0,1,s,at_,bad)).bind fun r=>match r with
 | .inl (o9,o10,o11)=>(some ((-1),o9,o10,true))
 | .inr r=>some r)
def l4Add.l0.step (again:(Int×List Int×Int×Int×Int)→Option (List Int)):(Int×List Int×Int×Int×Int)→Option (List Int):=fun (i,text1,o,o1,o2)=>
 (bif (decide (i<o1)) then (need (decide (0≤(w64 ((text1.length:Int)-o2)))&&decide ((w64 ((text1.length:Int)-o2))<text1.length)) (need (fits (text1.length+([(text1.getD ((w64 ((text1.length:Int)-o2)).toNat) 0)]:List (Int)).length)) (again ((w64 (i+1)),(text1++[(text1.getD ((w64 ((text1.length:Int)-o2)).toNat) 0)]),o,o1,o2)))) else
 (some text1))
def l4Add.l0:Nat→(Int×List Int×Int×Int×Int)→Option (List Int):=loopN (l4Add.l0.step)
theorem l4Add.l0.succ (n:Nat) (t:(Int×List Int×Int×Int×Int)):l4Add.l0 (n+1) t=l4Add.l0.step (l4Add.l0 n) t:=rfl
def l4Add (byte:Int) (long:Int) (back:Int) (text:List Int):Option (Bool×List Int):=
 (bif (long==0) then (need (fits (text.length+([(IntKind.wrap .u8 byte)]:List (Int)).length)) ((l1In byte 0 255).bind fun l1In_=>
 (bif l1In_ then (some ((back==0),(text++[(IntKind.wrap .u8 byte)]))) else
 (some (false,(text++[(IntKind.wrap .u8 byte)])))))) else
 ((bif (byte != 0) then (some true) else
 ((l1In long 3 60).bind fun l1In_1=>
 (bif (!l1In_1) then (some true) else
 ((l1In back 1 250).bind fun l1In_2=>
 (bif (!l1In_2) then (some true) else
 (some (decide (back>(text.length:Int))))))))).bind fun c=>
 (bif c then (some (false,text)) else
 ((l4Add.l0 ((long-(0:Int)).toNat+1) (0,text,byte,long,back)).bind fun text2=>
 (some (true,text2))))))
def l4Again.l0.step (again:(Str×Int×Int×Int)→Option (Int)):(Str×Int×Int×Int)→Option (Int):=fun (text1,at_1,back1,n)=>
 ((bif (decide ((w64 (at_1+n))<(text1.length:Int))) then (bif (decide (n<60)) then (need (decide (0≤(w64 (at_1+n)))&&decide ((w64 (at_1+n))<text1.length)) (need (decide (0≤(w64 ((w64 (at_1+n))-back1)))&&decide ((w64 ((w64 (at_1+n))-back1))<text1.length)) (some (((text1.getD (w64 (at_1+n)).toNat 0).toNat:Int)==((text1.getD (w64 ((w64 (at_1+n))-back1)).toNat 0).toNat:Int))))) else
 (some false)) else
 (some false)).bind fun c=>
 (bif c then (again (text1,at_1,back1,(w64 (n+1)))) else
 (some n)))
def l4Again.l0:Nat→(Str×Int×Int×Int)→Option (Int):=loopN (l4Again.l0.step)
theorem l4Again.l0.succ (n:Nat) (t:(Str×Int×Int×Int)):l4Again.l0 (n+1) t=l4Again.l0.step (l4Again.l0 n) t:=rfl
def l4Again (text:Str) (at_:Int) (back:Int):Option (Int):=
 ((l4Again.l0 (62) (text,at_,back,0)).bind fun n1=>
 (some n1))
def l4Tokens.l0.step (again:(Str×Int×Int×Int×Int×List (Int×Int×Int))→Option (Str×Int×Int×Int×List (Int×Int×Int))):(Str×Int×Int×Int×Int×List (Int×Int×Int))→Option (Str×Int×Int×Int×List (Int×Int×Int)):=fun (text2,at_1,long,far,back,out1)=>
 ((bif (decide (back≤250)) then (some (decide (back≤at_1))) else
 (some false)).bind fun c=>
 (bif c then ((l4Again text2 at_1 back).bind fun l4Again_=>
 (bif (decide (l4Again_>long)) then (again (text2,at_1,l4Again_,back,(w64 (back+1)),out1)) else
 (again (text2,at_1,long,far,(w64 (back+1)),out1)))) else
 (some (text2,at_1,long,far,out1))))
def l4Tokens.l0:Nat→(Str×Int×Int×Int×Int×List (Int×Int×Int))→Option (Str×Int×Int×Int×List (Int×Int×Int)):=loopN (l4Tokens.l0.step)
theorem l4Tokens.l0.succ (n:Nat) (t:(Str×Int×Int×Int×Int×List (Int×Int×Int))):l4Tokens.l0 (n+1) t=l4Tokens.l0.step (l4Tokens.l0 n) t:=rfl
def l4Tokens.l1.step (again:(Str×Int×List (Int×Int×Int))→Option (List (Int×Int×Int))):(Str×Int×List (Int×Int×Int))→Option (List (Int×Int×Int)):=fun (text1,at_,out)=>
 (bif (decide (at_<(text1.length:Int))) then ((l4Tokens.l0 ((250-(1:Int)).toNat+2) (text1,at_,0,0,1,out)).bind fun (text3,at_2,long1,far1,out2)=>
 (bif (decide (long1<3)) then (need (decide (0≤at_2)&&decide (at_2<text3.length)) (need (fits (out2.length+([((w64 ((text3.getD at_2.toNat 0).toNat:Int)),0,0)]:List (Int×Int×Int)).length)) (again (text3,(w64 (at_2+1)),(out2++[((w64 ((text3.getD at_2.toNat 0).toNat:Int)),0,0)]))))) else
 (need (fits (out2.length+([(0,long1,far1)]:List (Int×Int×Int)).length)) (again (text3,(w64 (at_2+long1)),(out2++[(0,long1,far1)])))))) else
 (some out))
def l4Tokens.l1:Nat→(Str×Int×List (Int×Int×Int))→Option (List (Int×Int×Int)):=loopN (l4Tokens.l1.step)
theorem l4Tokens.l1.succ (n:Nat) (t:(Str×Int×List (Int×Int×Int))):l4Tokens.l1 (n+1) t=l4Tokens.l1.step (l4Tokens.l1 n) t:=rfl
def l4Tokens (text:Str):Option (List (Int×Int×Int)):=
 ((l4Tokens.l1 (((text.length:Int)-(0:Int)).toNat+1) (text,0,[])).bind fun out3=>
 (some out3))
def l5Base.l0.step (again:(List Int×Int×Int×List Int)→Option (List Int)):(List Int×Int×Int×List Int)→Option (List Int):=fun (extra1,from_1,i,out)=>
 (bif (decide (i<(extra1.length:Int))) then (need (fits (out.length+([from_1]:List (Int)).length)) (need (decide (0≤i)&&decide (i<extra1.length)) ((l1Pow (extra1.getD i.toNat 0)).bind fun l1Pow_=>
 (again (extra1,(w64 (from_1+l1Pow_)),(w64 (i+1)),(out++[from_1])))))) else
 (some out))
def l5Base.l0:Nat→(List Int×Int×Int×List Int)→Option (List Int):=loopN (l5Base.l0.step)
def l5Base (extra:List Int) (from_:Int):Option (List Int):=
 ((l5Base.l0 (((extra.length:Int)-(0:Int)).toNat+1) (extra,from_,0,[])).bind fun out1=>
 (some out1))
def l5LongBits:Option (List Int):=
 (some [0,0,0,0,0,0,0,0,1,1,1,1,2,2,2,2,3,3,3,3,4,4,4,4,5,5,5,5])
def l5BackBits:Option (List Int):=
 (some [0,0,0,0,1,1,2,2,3,3,4,4,5,5,6,6,7,7,8,8,9,9,10,10,11,11,12,12,13,13])
def l5Sym.l0.step (again:(List Int×Int×Int)→Option (Int)):(List Int×Int×Int)→Option (Int):=fun (base1,n1,k)=>
 ((bif (decide ((w64 (k+1))<(base1.length:Int))) then (need (decide (0≤(w64 (k+1)))&&decide ((w64 (k+1))<base1.length)) (some (decide ((base1.getD (w64 (k+1)).toNat 0)≤n1)))) else
 (some false)).bind fun c=>
 (bif c then (again (base1,n1,(w64 (k+1)))) else
 (some k)))
def l5Sym.l0:Nat→(List Int×Int×Int)→Option (Int):=loopN (l5Sym.l0.step)
def l5Sym (base:List Int) (n:Int):Option (Int):=
 ((l5Sym.l0 ((base.length:Int).toNat+1) (base,n,0)).bind fun k1=>
 (some k1))
def l5Fixed.l0.step (again:(Int×List Int)→Option (List Int)):(Int×List Int)→Option (List Int):=fun (i,out)=>
 (bif (decide (i<288)) then (bif (decide (i<144)) then (need (fits (out.length+([8]:List (Int)).length)) (again ((w64 (i+1)),(out++[8])))) else
 (bif (decide (i<256)) then (need (fits (out.length+([9]:List (Int)).length)) (again ((w64 (i+1)),(out++[9])))) else
 (bif (decide (i<280)) then (need (fits (out.length+([7]:List (Int)).length)) (again ((w64 (i+1)),(out++[7])))) else
 (need (fits (out.length+([8]:List (Int)).length)) (again ((w64 (i+1)),(out++[8]))))))) else
 (some out))
def l5Fixed.l0:Nat→(Int×List Int)→Option (List Int):=loopN (l5Fixed.l0.step)
def l5Fixed:Option (List Int):=
 ((l5Fixed.l0 ((288-(0:Int)).toNat+1) (0,[])).bind fun out1=>
 (some out1))
def l5Fives.l0.step (again:(Int×List Int)→Option (List Int)):(Int×List Int)→Option (List Int):=fun (i,out)=>
 (bif (decide (i<32)) then (need (fits (out.length+([5]:List (Int)).length)) (again ((w64 (i+1)),(out++[5])))) else
 (some out))
def l5Fives.l0:Nat→(Int×List Int)→Option (List Int):=loopN (l5Fives.l0.step)
def l5Fives:Option (List Int):=
 ((l5Fives.l0 ((32-(0:Int)).toNat+1) (0,[])).bind fun out1=>
 (some out1))
def oSym (lens:List Int) (codes_:List Int) (sym:Int) (last:Int) (fill:Int) (text:List Int):Option (Int×Int×List Int):=
 ((l3Piece lens codes_ sym).bind fun (r,r1)=>
 ((oPut r r1 last fill text).bind fun (r2,r3,r4)=>
 (some (r2,r3,r4))))
def oTokens.l0.step (again:((List (Int×Int×Int))×List Int×List Int×Int×Int×Int×List Int×List Int×List Int×List Int×List Int)→Option (List Int×Int×Int×List Int×List Int)):((List (Int×Int×Int))×List Int×List Int×Int×Int×Int×List Int×List Int×List Int×List Int×List Int)→Option (List Int×Int×Int×List Int×List Int):=fun (list1,longs1,backs1,i,o,o1,a,b,long,back,o2)=>
 (bif (decide (i<(list1.length:Int))) then (need (decide (0≤i)&&decide (i<list1.length)) (bif ((list1.getD i.toNat (0,0,0)).2.1==0) then ((oSym longs1 a ((list1.getD i.toNat (0,0,0)).1) o o1 o2).bind fun (r,r1,r2)=>
 (again (list1,longs1,backs1,(w64 (i+1)),r,r1,a,b,long,back,r2))) else
 ((l5Sym long ((list1.getD i.toNat (0,0,0)).2.1)).bind fun l5Sym_=>
 ((oSym longs1 a (w64 (257+l5Sym_)) o o1 o2).bind fun (r3,r4,r5)=>
 (need (decide (0≤l5Sym_)&&decide (l5Sym_<long.length)) ((l5LongBits).bind fun l5LongBi1=>
 (need (decide (0≤l5Sym_)&&decide (l5Sym_<l5LongBi1.length)) ((oPut (w64 ((list1.getD i.toNat (0,0,0)).2.1-(long.getD l5Sym_.toNat 0))) (l5LongBi1.getD l5Sym_.toNat 0) r3 r4 r5).bind fun (r6,r7,r8)=>
 ((l5Sym back ((list1.getD i.toNat (0,0,0)).2.2)).bind fun l5Sym_1=>
 ((oSym backs1 b l5Sym_1 r6 r7 r8).bind fun (r9,r10,r11)=>
 (need (decide (0≤l5Sym_1)&&decide (l5Sym_1<back.length)) ((l5BackBits).bind fun l5BackBi1=>
 (need (decide (0≤l5Sym_1)&&decide (l5Sym_1<l5BackBi1.length)) ((oPut (w64 ((list1.getD i.toNat (0,0,0)).2.2-(back.getD l5Sym_1.toNat 0))) (l5BackBi1.getD l5Sym_1.toNat 0) r9 r10 r11).bind fun (r12,r13,r14)=>
 (again (list1,longs1,backs1,(w64 (i+1)),r12,r13,a,b,long,back,r14)))))))))))))))) else
 (some (longs1,o,o1,a,o2)))
def oTokens.l0:Nat→((List (Int×Int×Int))×List Int×List Int×Int×Int×Int×List Int×List Int×List Int×List Int×List Int)→Option (List Int×Int×Int×List Int×List Int):=loopN (oTokens.l0.step)
theorem oTokens.l0.succ (n:Nat) (t:((List (Int×Int×Int))×List Int×List Int×Int×Int×Int×List Int×List Int×List Int×List Int×List Int)):oTokens.l0 (n+1) t=oTokens.l0.step (oTokens.l0 n) t:=rfl
def oTokens (list:List (Int×Int×Int)) (longs:List Int) (backs:List Int) (last:Int) (fill:Int) (text:List Int):Option (Int×Int×List Int):=
 ((l3Codes longs).bind fun l3Codes_=>
 ((l3Codes backs).bind fun l3Codes_1=>
 ((l5LongBits).bind fun l5LongBi=>
 ((l5Base l5LongBi 3).bind fun l5Base_=>
 ((l5BackBits).bind fun l5BackBi=>
 ((l5Base l5BackBi 1).bind fun l5Base_1=>
 ((oTokens.l0 (((list.length:Int)-(0:Int)).toNat+1) (list,longs,backs,0,last,fill,l3Codes_,l3Codes_1,l5Base_,l5Base_1,text)).bind fun (longs2,o3,o4,a1,o5)=>
 ((oSym longs2 a1 256 o3 o4 o5).bind fun (r15,r16,r17)=>
 (some (r15,r16,r17))))))))))
def l5Store (text:Str):Option (Str):=
 ((oPut 1 1 0 0 []).bind fun (r,r1,r2)=>
 ((oPut 0 2 r r1 r2).bind fun (r3,r4,r5)=>
 ((oWhole r3 r4 r5).bind fun (r6,r7,r8)=>
 ((oPut (text.length:Int) 16 r6 r7 r8).bind fun (r9,r10,r11)=>
 ((oPut (w64 (65535-(text.length:Int))) 16 r9 r10 r11).bind fun (r12,r13,r14)=>
 (need (fits ((toBytes r14).length+text.length)) (some ((toBytes r14)++text))))))))
def l5Known (text:Str):Option (Str):=
 ((oPut 1 1 0 0 []).bind fun (r,r1,r2)=>
 ((oPut 1 2 r r1 r2).bind fun (r3,r4,r5)=>
 ((l4Tokens text).bind fun l4Tokens_=>
 ((l5Fixed).bind fun l5Fixed_=>
 ((l5Fives).bind fun l5Fives_=>
 ((oTokens l4Tokens_ l5Fixed_ l5Fives_ r3 r4 r5).bind fun (r6,r7,r8)=>
 ((oWhole r6 r7 r8).bind fun (r9,r10,r11)=>
 (some (toBytes r11)))))))))
def l5Counts.l0.step (again:((List (Int×Int×Int))×Int×List Int×List Int×List Int×List Int)→Option (List Int×List Int)):((List (Int×Int×Int))×Int×List Int×List Int×List Int×List Int)→Option (List Int×List Int):=fun (list1,i,longs,backs,long,back)=>
 (bif (decide (i<(list1.length:Int))) then (need (decide (0≤i)&&decide (i<list1.length)) (bif ((list1.getD i.toNat (0,0,0)).2.1==0) then (need (decide (0≤i)&&decide (i<list1.length)) (need (decide (0≤i)&&decide (i<list1.length)) (need (decide (0≤(list1.getD i.toNat (0,0,0)).1)&&decide ((list1.getD i.toNat (0,0,0)).1<longs.length)) (need (decide (0≤(list1.getD i.toNat (0,0,0)).1)&&decide ((list1.getD i.toNat (0,0,0)).1<longs.length)) (again (list1,(w64 (i+1)),(longs.set (((list1.getD i.toNat (0,0,0)).1).toNat) (w64 ((longs.getD (((list1.getD i.toNat (0,0,0)).1).toNat) 0)+1))),backs,long,back)))))) else
 (need (decide (0≤i)&&decide (i<list1.length)) ((l5Sym long ((list1.getD i.toNat (0,0,0)).2.1)).bind fun l5Sym_=>
 (need (decide (0≤(w64 (257+l5Sym_)))&&decide ((w64 (257+l5Sym_))<longs.length)) (need (decide (0≤(w64 (257+l5Sym_)))&&decide ((w64 (257+l5Sym_))<longs.length)) (need (decide (0≤i)&&decide (i<list1.length)) ((l5Sym back ((list1.getD i.toNat (0,0,0)).2.2)).bind fun l5Sym_1=>
 (need (decide (0≤l5Sym_1)&&decide (l5Sym_1<backs.length)) (need (decide (0≤l5Sym_1)&&decide (l5Sym_1<backs.length)) (again (list1,(w64 (i+1)),(longs.set ((w64 (257+l5Sym_)).toNat) (w64 ((longs.getD ((w64 (257+l5Sym_)).toNat) 0)+1))),(backs.set l5Sym_1.toNat (w64 ((backs.getD l5Sym_1.toNat 0)+1))),long,back)))))))))))) else
 (some (longs,backs)))
def l5Counts.l0:Nat→((List (Int×Int×Int))×Int×List Int×List Int×List Int×List Int)→Option (List Int×List Int):=loopN (l5Counts.l0.step)
theorem l5Counts.l0.succ (n:Nat) (t:((List (Int×Int×Int))×Int×List Int×List Int×List Int×List Int)):l5Counts.l0 (n+1) t=l5Counts.l0.step (l5Counts.l0 n) t:=rfl
def l5Counts (list:List (Int×Int×Int)):Option (List Int×List Int):=
 (need (decide (0≤286)&&fits 286) (need (decide (0≤30)&&fits 30) ((l5LongBits).bind fun l5LongBi=>
 ((l5Base l5LongBi 3).bind fun l5Base_=>
 ((l5BackBits).bind fun l5BackBi=>
 ((l5Base l5BackBi 1).bind fun l5Base_1=>
 (need (decide (0≤(256:Int))&&decide ((256:Int)<(List.replicate 286 (0:Int)).length)) ((l5Counts.l0 (((list.length:Int)-(0:Int)).toNat+1) (list,0,((List.replicate 286 (0:Int)).set 256 1),(List.replicate 30 (0:Int)),l5Base_,l5Base_1)).bind fun (longs1,backs1)=>
 ((l3Used backs1).bind fun l3Used_=>
 (bif (l3Used_==0) then (need (decide (0≤(0:Int))&&decide ((0:Int)<backs1.length)) (some (longs1,(backs1.set 0 1)))) else
 (some (longs1,backs1))))))))))))
def l5Last.l0.step (again:(List Int×Int×Int)→Option (List Int×Int)):(List Int×Int×Int)→Option (List Int×Int):=fun (lens1,least_1,n)=>
 ((bif (decide (n>least_1)) then (need (decide (0≤(w64 (n-1)))&&decide ((w64 (n-1))<lens1.length)) (some ((lens1.getD (w64 (n-1)).toNat 0)==0))) else
 (some false)).bind fun c=>
 (bif c then (again (lens1,least_1,(w64 (n-1)))) else
 (some (lens1,n))))
def l5Last.l0:Nat→(List Int×Int×Int)→Option (List Int×Int):=loopN (l5Last.l0.step)
theorem l5Last.l0.succ (n:Nat) (t:(List Int×Int×Int)):l5Last.l0 (n+1) t=l5Last.l0.step (l5Last.l0 n) t:=rfl
def l5Last (lens:List Int) (least_:Int):Option (List Int):=
 ((l5Last.l0 (((lens.length:Int)-least_).toNat+1) (lens,least_,(lens.length:Int))).bind fun (lens2,n1)=>
 (need (decide (0≤n1)&&decide (n1≤lens2.length)) (some (lens2.take n1.toNat))))
def l5Order:Option (List Int):=
 (some [16,17,18,0,8,7,9,6,10,5,11,4,12,3,13,2,14,1,15])
def oLens.l2.step (again:(Int×Int×Int×List Int×List Int×List Int×List Int)→Option (Int×Int×List Int)):(Int×Int×Int×List Int×List Int×List Int×List Int)→Option (Int×Int×List Int):=fun (i2,o12,o13,all4,lens2,codes_2,o14)=>
 (bif (decide (i2<(all4.length:Int))) then (need (decide (0≤i2)&&decide (i2<all4.length)) ((oSym lens2 codes_2 (all4.getD i2.toNat 0) o12 o13 o14).bind fun (r12,r13,r14)=>
 (again ((w64 (i2+1)),r12,r13,all4,lens2,codes_2,r14)))) else
 (some (o12,o13,o14)))
def oLens.l2:Nat→(Int×Int×Int×List Int×List Int×List Int×List Int)→Option (Int×Int×List Int):=loopN (oLens.l2.step)
theorem oLens.l2.succ (n:Nat) (t:(Int×Int×Int×List Int×List Int×List Int×List Int)):oLens.l2 (n+1) t=oLens.l2.step (oLens.l2 n) t:=rfl
def oLens.l1.step (again:(Int×Int×Int×List Int×List Int×List Int×List Int)→Option (Int×Int×List Int×List Int×List Int×List Int)):(Int×Int×Int×List Int×List Int×List Int×List Int)→Option (Int×Int×List Int×List Int×List Int×List Int):=fun (i1,o6,o7,all2,lens,codes_,o8)=>
 (bif (decide (i1<19)) then ((l5Order).bind fun l5Order_=>
 (need (decide (0≤i1)&&decide (i1<l5Order_.length)) (need (decide (0≤(l5Order_.getD i1.toNat 0))&&decide ((l5Order_.getD i1.toNat 0)<lens.length)) ((oPut (lens.getD ((l5Order_.getD i1.toNat 0).toNat) 0) 3 o6 o7 o8).bind fun (r9,r10,r11)=>
 (again ((w64 (i1+1)),r9,r10,all2,lens,codes_,r11)))))) else
 (some (o6,o7,all2,lens,codes_,o8)))
def oLens.l1:Nat→(Int×Int×Int×List Int×List Int×List Int×List Int)→Option (Int×Int×List Int×List Int×List Int×List Int):=loopN (oLens.l1.step)
theorem oLens.l1.succ (n:Nat) (t:(Int×Int×Int×List Int×List Int×List Int×List Int)):oLens.l1 (n+1) t=oLens.l1.step (oLens.l1 n) t:=rfl
def oLens.l0.step (again:(List Int×List Int×Int×Int×Int×List Int×List Int×List Int)→Option (List Int×List Int×Int×Int×List Int×List Int×List Int)):(List Int×List Int×Int×Int×Int×List Int×List Int×List Int)→Option (List Int×List Int×Int×Int×List Int×List Int×List Int):=fun (longs1,backs1,i,o,o1,all,counts,o2)=>
 (bif (decide (i<(all.length:Int))) then (need (decide (0≤i)&&decide (i<all.length)) (need (decide (0≤i)&&decide (i<all.length)) (need (decide (0≤(all.getD i.toNat 0))&&decide ((all.getD i.toNat 0)<counts.length)) (need (decide (0≤(all.getD i.toNat 0))&&decide ((all.getD i.toNat 0)<counts.length)) (again (longs1,backs1,(w64 (i+1)),o,o1,all,(counts.set ((all.getD i.toNat 0).toNat) (w64 ((counts.getD ((all.getD i.toNat 0).toNat) 0)+1))),o2)))))) else
 (some (longs1,backs1,o,o1,all,counts,o2)))
def oLens.l0:Nat→(List Int×List Int×Int×Int×Int×List Int×List Int×List Int)→Option (List Int×List Int×Int×Int×List Int×List Int×List Int):=loopN (oLens.l0.step)
theorem oLens.l0.succ (n:Nat) (t:(List Int×List Int×Int×Int×Int×List Int×List Int×List Int)):oLens.l0 (n+1) t=oLens.l0.step (oLens.l0 n) t:=rfl
def oLens (longs:List Int) (backs:List Int) (last:Int) (fill:Int) (text:List Int):Option (Int×Int×List Int):=
 (need (fits (([]:List (Int)).length+longs.length)) (need (fits (([]++longs).length+backs.length)) (need (decide (0≤19)&&fits 19) ((oLens.l0 ((((([]++longs)++backs).length:Int)-(0:Int)).toNat+1) (longs,backs,0,last,fill,(([]++longs)++backs),(List.replicate 19 (0:Int)),text)).bind fun (longs2,backs2,o3,o4,all1,counts1,o5)=>
 ((l3Fit counts1 7).bind fun l3Fit_=>
 ((l3Codes l3Fit_).bind fun l3Codes_=>
 ((oPut (w64 ((longs2.length:Int)-257)) 5 o3 o4 o5).bind fun (r,r1,r2)=>
 ((oPut (w64 ((backs2.length:Int)-1)) 5 r r1 r2).bind fun (r3,r4,r5)=>
 ((oPut 15 4 r3 r4 r5).bind fun (r6,r7,r8)=>
 ((oLens.l1 ((19-(0:Int)).toNat+1) (0,r6,r7,all1,l3Fit_,l3Codes_,r8)).bind fun (o9,o10,all3,lens1,codes_1,o11)=>
 ((oLens.l2 (((all3.length:Int)-(0:Int)).toNat+1) (0,o9,o10,all3,lens1,codes_1,o11)).bind fun (o15,o16,o17)=>
 (some (o15,o16,o17)))))))))))))
def l5Own (text:Str):Option (Str):=
 ((l4Tokens text).bind fun l4Tokens_=>
 ((l5Counts l4Tokens_).bind fun (r,r1)=>
 ((l3Fit r 15).bind fun l3Fit_=>
 ((l5Last l3Fit_ 257).bind fun l5Last_=>
 ((l3Fit r1 15).bind fun l3Fit_1=>
 ((l5Last l3Fit_1 1).bind fun l5Last_1=>
 ((oPut 1 1 0 0 []).bind fun (r2,r3,r4)=>
 ((oPut 2 2 r2 r3 r4).bind fun (r5,r6,r7)=>
 ((oLens l5Last_ l5Last_1 r5 r6 r7).bind fun (r8,r9,r10)=>
 ((oTokens l4Tokens_ l5Last_ l5Last_1 r8 r9 r10).bind fun (r11,r12,r13)=>
 ((oWhole r11 r12 r13).bind fun (r14,r15,r16)=>
 (some (toBytes r16)))))))))))))
def specFlatePut.l0.step (again:(Str×Int×List Str)→Option (Str)):(Str×Int×List Str)→Option (Str):=fun (out,i,list)=>
 (bif (decide (i<(list.length:Int))) then (need (decide (0≤i)&&decide (i<list.length)) (bif (decide (((list.getD i.toNat []).length:Int)<(out.length:Int))) then (need (decide (0≤i)&&decide (i<list.length)) (again ((list.getD i.toNat []),(w64 (i+1)),list))) else
 (again (out,(w64 (i+1)),list)))) else
 (some out))
def specFlatePut.l0:Nat→(Str×Int×List Str)→Option (Str):=loopN (specFlatePut.l0.step)
theorem specFlatePut.l0.succ (n:Nat) (t:(Str×Int×List Str)):specFlatePut.l0 (n+1) t=specFlatePut.l0.step (specFlatePut.l0 n) t:=rfl
def specFlatePut (text:Str):Option (Str):=
 (bif (decide ((text.length:Int)>300)) then (some []) else
 ((l5Store text).bind fun l5Store_=>
 ((l5Known text).bind fun l5Known_=>
 ((l5Own text).bind fun l5Own_=>
 ((specFlatePut.l0 (((([l5Known_,l5Own_]:List Str).length:Int)-(0:Int)).toNat+1) (l5Store_,0,[l5Known_,l5Own_])).bind fun out1=>
 (some out1))))))
def sStored.l0.step (again:(Int×Int×Str×Int×Bool×List Int)→Option (Str×Int×Bool×List Int)):(Int×Int×Str×Int×Bool×List Int)→Option (Str×Int×Bool×List Int):=fun (n1,i,o6,o7,o8,text3)=>
 ((bif (decide (i<n1)) then (some (!o8)) else
 (some false)).bind fun c=>
 (bif c then ((sNum 8 o6 o7 o8).bind fun (r12,r13,r14,r15)=>
 (need (fits (text3.length+([(IntKind.wrap .u8 r12)]:List (Int)).length)) (again (n1,(w64 (i+1)),r13,r14,r15,(text3++[(IntKind.wrap .u8 r12)]))))) else
 (some (o6,o7,o8,text3))))
def sStored.l0:Nat→(Int×Int×Str×Int×Bool×List Int)→Option (Str×Int×Bool×List Int):=loopN (sStored.l0.step)
theorem sStored.l0.succ (n:Nat) (t:(Int×Int×Str×Int×Bool×List Int)):sStored.l0 (n+1) t=sStored.l0.step (sStored.l0 n) t:=rfl
def sStored (s:Str) (at_:Int) (bad:Bool) (text:List Int):Option (Str×Int×Bool×List Int):=
 ((((sWhole s at_ bad).bind fun (r,r1,r2,r3)=>
 (bif (!r) then (some (r1,r2,true,text)) else
 (some (r1,r2,r3,text)))):Option (Str×Int×Bool×List Int)).bind fun (o,o1,o2,text1)=>
 ((sNum 16 o o1 o2).bind fun (r4,r5,r6,r7)=>
 ((((sNum 16 r5 r6 r7).bind fun (r8,r9,r10,r11)=>
 (bif (r8 != (w64 (65535-r4))) then (some (r4,r9,r10,true,text1)) else
 (bif (decide (r4>300)) then (some (r4,r9,r10,true,text1)) else
 (some (r4,r9,r10,r11,text1))))):Option (Int×Str×Int×Bool×List Int)).bind fun (n,o3,o4,o5,text2)=>
 ((sStored.l0 ((n-(0:Int)).toNat+1) (n,0,o3,o4,o5,text2)).bind fun (o9,o10,o11,text4)=>
 (some (o9,o10,o11,text4))))))
def sAgain (sym:Int) (backs:List Int) (codes_:List Int) (s:Str) (at_:Int) (bad:Bool) (text:List Int):Option (Str×Int×Bool×List Int):=
 ((l5LongBits).bind fun l5LongBi=>
 (bif (decide ((w64 (sym-257))≥(l5LongBi.length:Int))) then (some (s,at_,true,text)) else
 ((l5LongBits).bind fun l5LongBi1=>
 ((l5Base l5LongBi1 3).bind fun l5Base_=>
 (need (decide (0≤(w64 (sym-257)))&&decide ((w64 (sym-257))<l5Base_.length)) ((l5LongBits).bind fun l5LongBi2=>
 (need (decide (0≤(w64 (sym-257)))&&decide ((w64 (sym-257))<l5LongBi2.length)) ((sNum (l5LongBi2.getD ((w64 (sym-257)).toNat) 0) s at_ bad).bind fun (r,r1,r2,r3)=>
 ((sSymbol backs codes_ r1 r2 r3).bind fun (r4,r5,r6,r7)=>
 (bif r7 then (some (r5,r6,true,text)) else
 ((l5BackBits).bind fun l5BackBi=>
 (bif (decide (r4≥(l5BackBi.length:Int))) then (some (r5,r6,true,text)) else
 ((l5BackBits).bind fun l5BackBi1=>
 ((l5Base l5BackBi1 1).bind fun l5Base_1=>
 (need (decide (0≤r4)&&decide (r4<l5Base_1.length)) ((l5BackBits).bind fun l5BackBi2=>
 (need (decide (0≤r4)&&decide (r4<l5BackBi2.length)) ((sNum (l5BackBi2.getD r4.toNat 0) r5 r6 r7).bind fun (r8,r9,r10,r11)=>
 ((l4Add 0 (w64 ((l5Base_.getD ((w64 (sym-257)).toNat) 0)+r)) (w64 ((l5Base_1.getD r4.toNat 0)+r8)) text).bind fun (r12,r13)=>
 (bif (!r12) then (some (r9,r10,true,r13)) else
 (some (r9,r10,r11,r13))))))))))))))))))))))
def sTokens.l0.step (again:(List Int×List Int×Str×Int×Bool×List Int×List Int×List Int)→Option ((Str×Int×Bool×List Int)⊕(Str×Int×Bool×List Int))):(List Int×List Int×Str×Int×Bool×List Int×List Int×List Int)→Option ((Str×Int×Bool×List Int)⊕(Str×Int×Bool×List Int)):=fun (longs1,backs1,o,o1,o2,text1,a,b)=>
 ((bif (!o2) then (some (decide ((text1.length:Int)≤300))) else
 (some false)).bind fun c=>
 (bif c then ((sSymbol longs1 a o o1 o2).bind fun (r,r1,r2,r3)=>
 ((bif r3 then (some true) else
 (some (r==256))).bind fun c1=>
 (bif c1 then ((some (r1,r2,r3,text1)).map Sum.inr) else
 (bif (decide (r<256)) then (need (fits (text1.length+([(IntKind.wrap .u8 r)]:List (Int)).length)) (again (longs1,backs1,r1,r2,r3,(text1++[(IntKind.wrap .u8 r)]),a,b))) else
 ((sAgain r backs1 b r1 r2 r3 text1).bind fun (r4,r5,r6,r7)=>
 (again (longs1,backs1,r4,r5,r6,r7,a,b))))))) else
 (some (.inl (o,o1,o2,text1)))))
def sTokens.l0:Nat→(List Int×List Int×Str×Int×Bool×List Int×List Int×List Int)→Option ((Str×Int×Bool×List Int)⊕(Str×Int×Bool×List Int)):=loopN (sTokens.l0.step)
theorem sTokens.l0.succ (n:Nat) (t:(List Int×List Int×Str×Int×Bool×List Int×List Int×List Int)):sTokens.l0 (n+1) t=sTokens.l0.step (sTokens.l0 n) t:=rfl
def sTokens (longs:List Int) (backs:List Int) (s:Str) (at_:Int) (bad:Bool) (text:List Int):Option (Str×Int×Bool×List Int):=
 ((l3Codes longs).bind fun l3Codes_=>
 ((l3Codes backs).bind fun l3Codes_1=>
 ((sTokens.l0 (100000) (longs,backs,s,at_,bad,text,l3Codes_,l3Codes_1)).bind fun r=>match r with
 | .inl (o3,o4,o5,text2)=>(some (o3,o4,true,text2))
 | .inr r=>some r)))
def sMany.l0.step (again:(Int×Int×Int×Str×Int×Bool×List Int)→Option (Str×Int×Bool×List Int)):(Int×Int×Int×Str×Int×Bool×List Int)→Option (Str×Int×Bool×List Int):=fun (last1,n1,i,o3,o4,o5,out2)=>
 ((bif (decide (i<n1)) then (some (!o5)) else
 (some false)).bind fun c1=>
 (bif c1 then (need (fits (out2.length+([last1]:List (Int)).length)) (again (last1,n1,(w64 (i+1)),o3,o4,o5,(out2++[last1])))) else
 (some (o3,o4,o5,out2))))
def sMany.l0:Nat→(Int×Int×Int×Str×Int×Bool×List Int)→Option (Str×Int×Bool×List Int):=loopN (sMany.l0.step)
theorem sMany.l0.succ (n:Nat) (t:(Int×Int×Int×Str×Int×Bool×List Int)):sMany.l0 (n+1) t=sMany.l0.step (sMany.l0 n) t:=rfl
def sMany (sym:Int) (s:Str) (at_:Int) (bad:Bool) (out:List Int):Option (Str×Int×Bool×List Int):=
 ((((bif (sym==16) then (some ((out.length:Int)==0)) else
 (some false)).bind fun c=>
 (bif c then (some (0,0,s,at_,true,out)) else
 (bif (sym==16) then (need (decide (0≤(w64 ((out.length:Int)-1)))&&decide ((w64 ((out.length:Int)-1))<out.length)) ((sNum 2 s at_ bad).bind fun (r,r1,r2,r3)=>
 (some ((out.getD ((w64 ((out.length:Int)-1)).toNat) 0),(w64 (3+r)),r1,r2,r3,out)))) else
 (bif (sym==17) then ((sNum 3 s at_ bad).bind fun (r4,r5,r6,r7)=>
 (some (0,(w64 (3+r4)),r5,r6,r7,out))) else
 (bif (sym==18) then ((sNum 7 s at_ bad).bind fun (r8,r9,r10,r11)=>
 (some (0,(w64 (11+r8)),r9,r10,r11,out))) else
 (some (sym,1,s,at_,bad,out))))))):Option (Int×Int×Str×Int×Bool×List Int)).bind fun (last,n,o,o1,o2,out1)=>
 ((sMany.l0 ((n-(0:Int)).toNat+1) (last,n,0,o,o1,o2,out1)).bind fun (o6,o7,o8,out3)=>
 (some (o6,o7,o8,out3))))
def sLens.l1.step (again:(Int×Int×Str×Int×Bool×List Int×List Int×List Int)→Option (Int×Int×Str×Int×Bool×List Int)):(Int×Int×Str×Int×Bool×List Int×List Int×List Int)→Option (Int×Int×Str×Int×Bool×List Int):=fun (long2,back2,o6,o7,o8,lens2,codes_,all)=>
 ((bif (decide ((all.length:Int)<(w64 (long2+back2)))) then (some (!o8)) else
 (some false)).bind fun c1=>
 (bif c1 then ((sSymbol lens2 codes_ o6 o7 o8).bind fun (r16,r17,r18,r19)=>
 ((sMany r16 r17 r18 r19 all).bind fun (r20,r21,r22,r23)=>
 (again (long2,back2,r20,r21,r22,lens2,codes_,r23)))) else
 (some (long2,back2,o6,o7,o8,all))))
def sLens.l1:Nat→(Int×Int×Str×Int×Bool×List Int×List Int×List Int)→Option (Int×Int×Str×Int×Bool×List Int):=loopN (sLens.l1.step)
theorem sLens.l1.succ (n:Nat) (t:(Int×Int×Str×Int×Bool×List Int×List Int×List Int)):sLens.l1 (n+1) t=sLens.l1.step (sLens.l1 n) t:=rfl
def sLens.l0.step (again:(Int×Int×Int×Int×Str×Int×Bool×List Int)→Option (Int×Int×Str×Int×Bool×List Int)):(Int×Int×Int×Int×Str×Int×Bool×List Int)→Option (Int×Int×Str×Int×Bool×List Int):=fun (long,back,n,i,o,o1,o2,lens)=>
 (bif (decide (i<n)) then ((l5Order).bind fun l5Order_=>
 (need (decide (0≤i)&&decide (i<l5Order_.length)) ((sNum 3 o o1 o2).bind fun (r12,r13,r14,r15)=>
 (need (decide (0≤(l5Order_.getD i.toNat 0))&&decide ((l5Order_.getD i.toNat 0)<lens.length)) (again (long,back,n,(w64 (i+1)),r13,r14,r15,(lens.set ((l5Order_.getD i.toNat 0).toNat) r12))))))) else
 (some (long,back,o,o1,o2,lens)))
def sLens.l0:Nat→(Int×Int×Int×Int×Str×Int×Bool×List Int)→Option (Int×Int×Str×Int×Bool×List Int):=loopN (sLens.l0.step)
theorem sLens.l0.succ (n:Nat) (t:(Int×Int×Int×Int×Str×Int×Bool×List Int)):sLens.l0 (n+1) t=sLens.l0.step (sLens.l0 n) t:=rfl
def sLens (s:Str) (at_:Int) (bad:Bool):Option (List Int×List Int×Str×Int×Bool):=
 ((sNum 5 s at_ bad).bind fun (r,r1,r2,r3)=>
 ((sNum 5 r1 r2 r3).bind fun (r4,r5,r6,r7)=>
 ((sNum 4 r5 r6 r7).bind fun (r8,r9,r10,r11)=>
 (need (decide (0≤19)&&fits 19) ((sLens.l0 (((w64 (4+r8))-(0:Int)).toNat+1) ((w64 (257+r)),(w64 (1+r4)),(w64 (4+r8)),0,r9,r10,r11,(List.replicate 19 (0:Int)))).bind fun (long1,back1,o3,o4,o5,lens1)=>
 (((specLensOk lens1).bind fun LensOk=>
 (bif (!LensOk) then (some true) else
 (bif (decide (long1>286)) then (some true) else
 (some (decide (back1>30)))))).bind fun c=>
 (bif c then (some ([],[],o3,o4,true)) else
 ((l3Codes lens1).bind fun l3Codes_=>
 ((sLens.l1 (((w64 (long1+back1))-(([]:List Int).length:Int)).toNat+1) (long1,back1,o3,o4,o5,lens1,l3Codes_,[])).bind fun (long3,back3,o9,o10,o11,all1)=>
 ((bif o11 then (some true) else
 (bif ((all1.length:Int) != (w64 (long3+back3))) then (some true) else
 (need (decide (0≤long3)&&decide (long3≤all1.length)) ((specLensOk ((all1.drop 0).take long3.toNat)).bind fun LensOk1=>
 (bif (!LensOk1) then (some true) else
 (need (decide (0≤long3)&&decide (long3≤all1.length)) ((specLensOk ((all1.drop long3.toNat).take (all1.length-long3.toNat))).bind fun LensOk2=>
 (some (!LensOk2))))))))).bind fun c2=>
 (bif c2 then (some ([],[],o9,o10,true)) else
 (need (decide (0≤long3)&&decide (long3≤all1.length)) (need (decide (0≤long3)&&decide (long3≤all1.length)) (some (((all1.drop 0).take long3.toNat),((all1.drop long3.toNat).take (all1.length-long3.toNat)),o9,o10,o11)))))))))))))))
def sPart (s:Str) (at_:Int) (bad:Bool) (text:List Int):Option (Bool×Str×Int×Bool×List Int):=
 ((sBit s at_ bad).bind fun (r,r1,r2,r3)=>
 ((sNum 2 r1 r2 r3).bind fun (r4,r5,r6,r7)=>
 (bif (r4==0) then ((sStored r5 r6 r7 text).bind fun (r8,r9,r10,r11)=>
 (some ((r==1),r8,r9,r10,r11))) else
 (bif (r4==1) then ((l5Fixed).bind fun l5Fixed_=>
 ((l5Fives).bind fun l5Fives_=>
 ((sTokens l5Fixed_ l5Fives_ r5 r6 r7 text).bind fun (r12,r13,r14,r15)=>
 (some ((r==1),r12,r13,r14,r15))))) else
 (bif (r4==2) then ((sLens r5 r6 r7).bind fun (r16,r17,r18,r19,r20)=>
 (bif (!r20) then ((sTokens r16 r17 r18 r19 r20 text).bind fun (r21,r22,r23,r24)=>
 (some ((r==1),r21,r22,r23,r24))) else
 (some ((r==1),r18,r19,r20,text)))) else
 (some ((r==1),r5,r6,true,text)))))))
def l5Get.l0.step (again:(Bool×Str×Int×Bool×List Int)→Option (Str×Int×Bool×List Int)):(Bool×Str×Int×Bool×List Int)→Option (Str×Int×Bool×List Int):=fun (last,o,o1,o2,out)=>
 ((bif (!last) then (some (!o2)) else
 (some false)).bind fun c=>
 (bif c then ((sPart o o1 o2 out).bind fun (r,r1,r2,r3,r4)=>
 (again (r,r1,r2,r3,r4))) else
 (some (o,o1,o2,out))))
def l5Get.l0:Nat→(Bool×Str×Int×Bool×List Int)→Option (Str×Int×Bool×List Int):=loopN (l5Get.l0.step)
theorem l5Get.l0.succ (n:Nat) (t:(Bool×Str×Int×Bool×List Int)):l5Get.l0 (n+1) t=l5Get.l0.step (l5Get.l0 n) t:=rfl
def l5Get (text:Str):Option (Str×Int×Bool):=
 ((l5Get.l0 (100000) (false,text,0,false,[])).bind fun (o3,o4,o5,out1)=>
 ((sWhole o3 o4 o5).bind fun (r5,r6,r7,r8)=>
 ((bif r8 then (some true) else
 (bif (!r5) then (some true) else
 (some (decide ((out1.length:Int)>300))))).bind fun c1=>
 (bif c1 then (some ([],0,false)) else
 (some ((toBytes out1),(w64 (r7.tdiv 8)),true))))))
def specFlateGet (text:Str):Option (Str×Int×Bool):=
 (bif (decide ((text.length:Int)>700)) then (some ([],0,false)) else
 ((l5Get text).bind fun (r,r1,r2)=>
 (some (r,r1,r2))))
def l6Days (year:Int) (month:Int):Option (Int):=
 (((bif (month==4) then (some (year,month,(month==4))) else
 (bif (month==6) then (some (year,month,(month==6))) else
 (bif (month==9) then (some (year,month,(month==9))) else
 (some (year,month,(month==11)))))):Option (Int×Int×Bool)).bind fun (year1,t,t1)=>
 (bif t1 then (some 30) else
 (bif (t==2) then ((bif ((year1.tmod 4)==0) then (bif ((year1.tmod 100) != 0) then (some true) else
 (some ((year1.tmod 400)==0))) else
 (some false)).bind fun c=>
 (bif c then (some 29) else
 (some 28))) else
 (some 31))))
def specStampOk (y:Int) (mo:Int) (d:Int) (h:Int) (mi:Int) (sec:Int):Option (Bool):=
 (((l1In y 1980 2107).bind fun l1In_=>
 (bif l1In_ then ((l1In mo 1 12).bind fun l1In_1=>
 (bif l1In_1 then ((l6Days y mo).bind fun l6Days_=>
 ((l1In d 1 l6Days_).bind fun l1In_2=>
 (some l1In_2))) else
 (some false))) else
 (some false))).bind fun day=>
 ((bif day then ((l1In h 0 23).bind fun l1In_3=>
 (bif l1In_3 then ((l1In mi 0 59).bind fun l1In_4=>
 (bif l1In_4 then ((l1In sec 0 58).bind fun l1In_5=>
 (bif l1In_5 then (some ((sec.tmod 2)==0)) else
 (some false))) else
 (some false))) else
 (some false))) else
 (some false)).bind fun c=>
 (some c)))
def l6Put (y:Int) (mo:Int) (d:Int) (h:Int) (mi:Int) (sec:Int):Option (Int):=
 (some (w64 ((w64 ((w64 ((w64 ((w64 ((w64 ((w64 ((w64 ((w64 ((w64 ((w64 (y-1980))*16))+mo))*32))+d))*32))+h))*64))+mi))*32))+(w64 (sec.tdiv 2)))))
def l6Get (n:Int):Option (Int×Int×Int×Int×Int×Int):=
 (some ((w64 ((w64 ((w64 ((w64 ((w64 ((w64 (n.tdiv 32)).tdiv 64)).tdiv 32)).tdiv 32)).tdiv 16))+1980)),((w64 ((w64 ((w64 ((w64 (n.tdiv 32)).tdiv 64)).tdiv 32)).tdiv 32)).tmod 16),((w64 ((w64 ((w64 (n.tdiv 32)).tdiv 64)).tdiv 32)).tmod 32),((w64 ((w64 (n.tdiv 32)).tdiv 64)).tmod 32),((w64 (n.tdiv 32)).tmod 64),(w64 (2*(n.tmod 32)))))
def specEntryOk (name:Str) (y:Int) (mo:Int) (d:Int) (h:Int) (mi:Int) (sec:Int) (text:Str):Option (Bool):=
 (((specNameOk name).bind fun NameOk=>
 (bif NameOk then ((specStampOk y mo d h mi sec).bind fun StampOk=>
 (bif StampOk then (some (decide ((text.length:Int)≤300))) else
 (some false))) else
 (some false))).bind fun c=>
 (some c))
def l6Bytes.l0.step (again:(Int×Int×Int×List Int)→Option (List Int)):(Int×Int×Int×List Int)→Option (List Int):=fun (n1,many1,i,out)=>
 (bif (decide (i<many1)) then (need (fits (out.length+([(IntKind.wrap .u8 (n1.tmod 256))]:List (Int)).length)) (again ((w64 (n1.tdiv 256)),many1,(w64 (i+1)),(out++[(IntKind.wrap .u8 (n1.tmod 256))])))) else
 (some out))
def l6Bytes.l0:Nat→(Int×Int×Int×List Int)→Option (List Int):=loopN (l6Bytes.l0.step)
theorem l6Bytes.l0.succ (n:Nat) (t:(Int×Int×Int×List Int)):l6Bytes.l0 (n+1) t=l6Bytes.l0.step (l6Bytes.l0 n) t:=rfl
def l6Bytes (n:Int) (many:Int):Option (Str):=
 ((l6Bytes.l0 ((many-(0:Int)).toNat+1) (n,many,0,[])).bind fun out1=>
 (some (toBytes out1)))
def l6Num.l0.step (again:(Str×Int×Int×Int)→Option (Int)):(Str×Int×Int×Int)→Option (Int):=fun (s1,at_1,n,i)=>
 (bif (decide (i≥0)) then (need (decide (0≤(w64 (at_1+i)))&&decide ((w64 (at_1+i))<s1.length)) (again (s1,at_1,(w64 ((w64 (256*n))+(w64 ((s1.getD (w64 (at_1+i)).toNat 0).toNat:Int)))),(w64 (i-1))))) else
 (some n))
def l6Num.l0:Nat→(Str×Int×Int×Int)→Option (Int):=loopN (l6Num.l0.step)
theorem l6Num.l0.succ (n:Nat) (t:(Str×Int×Int×Int)):l6Num.l0 (n+1) t=l6Num.l0.step (l6Num.l0 n) t:=rfl
def l6Num (s:Str) (at_:Int) (many:Int):Option (Int):=
 ((bif (decide (at_<0)) then (some true) else
 (some (decide ((w64 (at_+many))>(s.length:Int))))).bind fun c=>
 (bif c then (some (-1)) else
 ((l6Num.l0 (((w64 (many-1))-0).toNat+2) (s,at_,0,(w64 (many-1)))).bind fun n1=>
 (some n1))))
def l6How (text:Str):Option (Int×Str):=
 ((specFlatePut text).bind fun FlatePut=>
 (bif (decide ((FlatePut.length:Int)<(text.length:Int))) then (some (8,FlatePut)) else
 (some (0,text))))
def l6Fields (name:Str) (y:Int) (mo:Int) (d:Int) (h:Int) (mi:Int) (sec:Int) (text:Str):Option (Str):=
 ((l6How text).bind fun (r,r1)=>
 ((l6Bytes 20 2).bind fun l6Bytes_=>
 ((l6Bytes 0 2).bind fun l6Bytes_1=>
 (need (fits (l6Bytes_.length+l6Bytes_1.length)) ((l6Bytes r 2).bind fun l6Bytes_2=>
 (need (fits ((l6Bytes_++l6Bytes_1).length+l6Bytes_2.length)) ((l6Put y mo d h mi sec).bind fun l6Put_=>
 ((l6Bytes l6Put_ 4).bind fun l6Bytes_3=>
 (need (fits (((l6Bytes_++l6Bytes_1)++l6Bytes_2).length+l6Bytes_3.length)) ((specCrc text).bind fun Crc=>
 ((l6Bytes Crc 4).bind fun l6Bytes_4=>
 (need (fits ((((l6Bytes_++l6Bytes_1)++l6Bytes_2)++l6Bytes_3).length+l6Bytes_4.length)) ((l6Bytes (r1.length:Int) 4).bind fun l6Bytes_5=>
 (need (fits (((((l6Bytes_++l6Bytes_1)++l6Bytes_2)++l6Bytes_3)++l6Bytes_4).length+l6Bytes_5.length)) ((l6Bytes (text.length:Int) 4).bind fun l6Bytes_6=>
 (need (fits ((((((l6Bytes_++l6Bytes_1)++l6Bytes_2)++l6Bytes_3)++l6Bytes_4)++l6Bytes_5).length+l6Bytes_6.length)) ((l6Bytes (name.length:Int) 2).bind fun l6Bytes_7=>
 (need (fits (((((((l6Bytes_++l6Bytes_1)++l6Bytes_2)++l6Bytes_3)++l6Bytes_4)++l6Bytes_5)++l6Bytes_6).length+l6Bytes_7.length)) ((l6Bytes 0 2).bind fun l6Bytes_8=>
 (need (fits ((((((((l6Bytes_++l6Bytes_1)++l6Bytes_2)++l6Bytes_3)++l6Bytes_4)++l6Bytes_5)++l6Bytes_6)++l6Bytes_7).length+l6Bytes_8.length)) (some ((((((((l6Bytes_++l6Bytes_1)++l6Bytes_2)++l6Bytes_3)++l6Bytes_4)++l6Bytes_5)++l6Bytes_6)++l6Bytes_7)++l6Bytes_8))))))))))))))))))))))
def l6Local (name:Str) (y:Int) (mo:Int) (d:Int) (h:Int) (mi:Int) (sec:Int) (text:Str):Option (Str):=
 ((l6How text).bind fun (r,r1)=>
 ((l6Bytes 67324752 4).bind fun l6Bytes_=>
 ((l6Fields name y mo d h mi sec text).bind fun l6Fields_=>
 (need (fits (l6Bytes_.length+l6Fields_.length)) (need (fits ((l6Bytes_++l6Fields_).length+name.length)) (need (fits (((l6Bytes_++l6Fields_)++name).length+r1.length)) (some (((l6Bytes_++l6Fields_)++name)++r1))))))))
def l6Text (how:Int) (packed:Str):Option (Str×Bool):=
 (bif (how==0) then (some (packed,true)) else
 ((specFlateGet packed).bind fun (r,r1,r2)=>
 ((bif r2 then (bif (how==8) then (some (r,(r1==(packed.length:Int)))) else
 (some (r,false))) else
 (some (r,false))).bind fun (c,c1)=>
 (some (c,c1)))))
def l6Read (text:Str):Option (Str×Int×Int×Int×Int×Int×Int×Str×Int×Bool):=
 ((l6Num text 26 2).bind fun l6Num_=>
 ((l6Num text 18 4).bind fun l6Num_1=>
 (((l6Num text 0 4).bind fun l6Num_2=>
 (bif (l6Num_2==67324752) then ((l6Num text 4 2).bind fun l6Num_3=>
 (bif (l6Num_3==20) then ((l6Num text 6 2).bind fun l6Num_4=>
 (bif (l6Num_4==0) then ((l6Num text 28 2).bind fun l6Num_5=>
 (some (l6Num_5==0))) else
 (some false))) else
 (some false))) else
 (some false))).bind fun head=>
 ((bif (!head) then (some true) else
 (bif (decide (l6Num_<0)) then (some true) else
 (bif (decide (l6Num_1<0)) then (some true) else
 (some (decide ((w64 ((w64 (30+l6Num_))+l6Num_1))>(text.length:Int))))))).bind fun c=>
 (bif c then (some ([],0,0,0,0,0,0,[],0,false)) else
 (need (decide (0≤(w64 (30+l6Num_)))&&decide ((w64 (30+l6Num_))≤text.length)) (need (decide (0≤(30:Int))&&decide ((30:Int)≤(w64 (30+l6Num_)))) ((l6Num text 10 4).bind fun l6Num_6=>
 ((l6Get l6Num_6).bind fun (r,r1,r2,r3,r4,r5)=>
 ((l6Num text 8 2).bind fun l6Num_7=>
 (need (decide (0≤(w64 ((w64 (30+l6Num_))+l6Num_1)))&&decide ((w64 ((w64 (30+l6Num_))+l6Num_1))≤text.length)) (need (decide (0≤(w64 (30+l6Num_)))&&decide ((w64 (30+l6Num_))≤(w64 ((w64 (30+l6Num_))+l6Num_1)))) ((l6Text l6Num_7 ((text.take (w64 ((w64 (30+l6Num_))+l6Num_1)).toNat).drop (w64 (30+l6Num_)).toNat)).bind fun (r6,r7)=>
 ((bif r7 then ((l6Num text 14 4).bind fun l6Num_8=>
 ((specCrc r6).bind fun Crc=>
 (bif (l6Num_8==Crc) then ((l6Num text 22 4).bind fun l6Num_9=>
 (some (l6Num_9==(r6.length:Int)))) else
 (some false)))) else
 (some false)).bind fun ok=>
 (bif ok then ((specEntryOk ((text.take (w64 (30+l6Num_)).toNat).drop 30) r r1 r2 r3 r4 r5 r6).bind fun EntryOk=>
 (some (((text.take (w64 (30+l6Num_)).toNat).drop 30),r,r1,r2,r3,r4,r5,r6,(w64 ((w64 (30+l6Num_))+l6Num_1)),EntryOk))) else
 (some (((text.take (w64 (30+l6Num_)).toNat).drop 30),r,r1,r2,r3,r4,r5,r6,(w64 ((w64 (30+l6Num_))+l6Num_1)),false)))))))))))))))))
def l7At.l0.step (again:((List (Str×Int×Int×Int×Int×Int×Int×Str))×Str×Int)→Option ((Unit)⊕(Int))):((List (Str×Int×Int×Int×Int×Int×Int×Str))×Str×Int)→Option ((Unit)⊕(Int)):=fun (list1,name1,i)=>
 (bif (decide (i<(list1.length:Int))) then (need (decide (0≤i)&&decide (i<list1.length)) (bif ((list1.getD i.toNat ([],0,0,0,0,0,0,[])).1==name1) then ((some i).map Sum.inr) else
 (again (list1,name1,(w64 (i+1)))))) else
 (some (.inl ())))
def l7At.l0:Nat→((List (Str×Int×Int×Int×Int×Int×Int×Str))×Str×Int)→Option ((Unit)⊕(Int)):=loopN (l7At.l0.step)
theorem l7At.l0.succ (n:Nat) (t:((List (Str×Int×Int×Int×Int×Int×Int×Str))×Str×Int)):l7At.l0 (n+1) t=l7At.l0.step (l7At.l0 n) t:=rfl
def l7At (list:List (Str×Int×Int×Int×Int×Int×Int×Str)) (name:Str):Option (Int):=
 ((l7At.l0 (((list.length:Int)-(0:Int)).toNat+1) (list,name,0)).bind fun r=>match r with
 | .inl _=>(some (-1))
 | .inr r=>some r)
def specZipOk.l0.step (again:((List (Str×Int×Int×Int×Int×Int×Int×Str))×Int×Int)→Option (((List (Str×Int×Int×Int×Int×Int×Int×Str))×Int)⊕((List (Str×Int×Int×Int×Int×Int×Int×Str))⊕(Bool)))):((List (Str×Int×Int×Int×Int×Int×Int×Str))×Int×Int)→Option (((List (Str×Int×Int×Int×Int×Int×Int×Str))×Int)⊕((List (Str×Int×Int×Int×Int×Int×Int×Str))⊕(Bool))):=fun (list2,i1,k)=>
 (bif (decide (k<(list2.length:Int))) then (need (decide (0≤i1)&&decide (i1<list2.length)) (need (decide (0≤k)&&decide (k<list2.length)) ((l7Under ((list2.getD i1.toNat ([],0,0,0,0,0,0,[])).1) ((list2.getD k.toNat ([],0,0,0,0,0,0,[])).1)).bind fun l7Under_=>
 (bif l7Under_ then (((some false).map Sum.inr).map Sum.inr) else
 (again (list2,i1,(w64 (k+1)))))))) else
 (some (.inl (list2,i1))))
def specZipOk.l0:Nat→((List (Str×Int×Int×Int×Int×Int×Int×Str))×Int×Int)→Option (((List (Str×Int×Int×Int×Int×Int×Int×Str))×Int)⊕((List (Str×Int×Int×Int×Int×Int×Int×Str))⊕(Bool))):=loopN (specZipOk.l0.step)
theorem specZipOk.l0.succ (n:Nat) (t:((List (Str×Int×Int×Int×Int×Int×Int×Str))×Int×Int)):specZipOk.l0 (n+1) t=specZipOk.l0.step (specZipOk.l0 n) t:=rfl
def specZipOk.l1.step (again:((List (Str×Int×Int×Int×Int×Int×Int×Str))×Int)→Option ((List (Str×Int×Int×Int×Int×Int×Int×Str))⊕(Bool))):((List (Str×Int×Int×Int×Int×Int×Int×Str))×Int)→Option ((List (Str×Int×Int×Int×Int×Int×Int×Str))⊕(Bool)):=fun (list1,i)=>
 (bif (decide (i<(list1.length:Int))) then ((need (decide (0≤i)&&decide (i<list1.length)) ((specEntryOk ((list1.getD i.toNat ([],0,0,0,0,0,0,[])).1) ((list1.getD i.toNat ([],0,0,0,0,0,0,[])).2.1) ((list1.getD i.toNat ([],0,0,0,0,0,0,[])).2.2.1) ((list1.getD i.toNat ([],0,0,0,0,0,0,[])).2.2.2.1) ((list1.getD i.toNat ([],0,0,0,0,0,0,[])).2.2.2.2.1) ((list1.getD i.toNat ([],0,0,0,0,0,0,[])).2.2.2.2.2.1) ((list1.getD i.toNat ([],0,0,0,0,0,0,[])).2.2.2.2.2.2.1) ((list1.getD i.toNat ([],0,0,0,0,0,0,[])).2.2.2.2.2.2.2)).bind fun EntryOk=>
 (bif (!EntryOk) then (some true) else
 (need (decide (0≤i)&&decide (i<list1.length)) ((l7At list1 ((list1.getD i.toNat ([],0,0,0,0,0,0,[])).1)).bind fun l7At_=>
 (some (l7At_ != i))))))).bind fun c=>
 (bif c then ((some false).map Sum.inr) else
 ((specZipOk.l0 (((list1.length:Int)-(0:Int)).toNat+1) (list1,i,0)).bind fun r=>match r with
 | .inl (list3,i2)=>(again (list3,(w64 (i2+1))))
 | .inr r=>some r))) else
 (some (.inl list1)))
def specZipOk.l1:Nat→((List (Str×Int×Int×Int×Int×Int×Int×Str))×Int)→Option ((List (Str×Int×Int×Int×Int×Int×Int×Str))⊕(Bool)):=loopN (specZipOk.l1.step)
theorem specZipOk.l1.succ (n:Nat) (t:((List (Str×Int×Int×Int×Int×Int×Int×Str))×Int)):specZipOk.l1 (n+1) t=specZipOk.l1.step (specZipOk.l1 n) t:=rfl
def specZipOk (list:List (Str×Int×Int×Int×Int×Int×Int×Str)):Option (Bool):=
 ((specZipOk.l1 (((list.length:Int)-(0:Int)).toNat+1) (list,0)).bind fun r=>match r with
 | .inl list4=>(some (decide ((list4.length:Int)≤6)))
 | .inr r=>some r)
def l7Central (name:Str) (y:Int) (mo:Int) (d:Int) (h:Int) (mi:Int) (sec:Int) (text:Str) (at_:Int):Option (Str):=
 ((l6Bytes 33639248 4).bind fun l6Bytes_=>
 ((l6Bytes 20 2).bind fun l6Bytes_1=>
 (need (fits (l6Bytes_.length+l6Bytes_1.length)) ((l6Fields name y mo d h mi sec text).bind fun l6Fields_=>
 (need (fits ((l6Bytes_++l6Bytes_1).length+l6Fields_.length)) ((l6Bytes 0 2).bind fun l6Bytes_2=>
 (need (fits (((l6Bytes_++l6Bytes_1)++l6Fields_).length+l6Bytes_2.length)) ((l6Bytes 0 2).bind fun l6Bytes_3=>
 (need (fits ((((l6Bytes_++l6Bytes_1)++l6Fields_)++l6Bytes_2).length+l6Bytes_3.length)) ((l6Bytes 0 2).bind fun l6Bytes_4=>
 (need (fits (((((l6Bytes_++l6Bytes_1)++l6Fields_)++l6Bytes_2)++l6Bytes_3).length+l6Bytes_4.length)) ((l6Bytes 0 4).bind fun l6Bytes_5=>
 (need (fits ((((((l6Bytes_++l6Bytes_1)++l6Fields_)++l6Bytes_2)++l6Bytes_3)++l6Bytes_4).length+l6Bytes_5.length)) ((l6Bytes at_ 4).bind fun l6Bytes_6=>
 (need (fits (((((((l6Bytes_++l6Bytes_1)++l6Fields_)++l6Bytes_2)++l6Bytes_3)++l6Bytes_4)++l6Bytes_5).length+l6Bytes_6.length)) (need (fits ((((((((l6Bytes_++l6Bytes_1)++l6Fields_)++l6Bytes_2)++l6Bytes_3)++l6Bytes_4)++l6Bytes_5)++l6Bytes_6).length+name.length)) (some ((((((((l6Bytes_++l6Bytes_1)++l6Fields_)++l6Bytes_2)++l6Bytes_3)++l6Bytes_4)++l6Bytes_5)++l6Bytes_6)++name))))))))))))))))))
def l7End (many:Int) (long:Int) (at_:Int):Option (Str):=
 ((l6Bytes 101010256 4).bind fun l6Bytes_=>
 ((l6Bytes 0 2).bind fun l6Bytes_1=>
 (need (fits (l6Bytes_.length+l6Bytes_1.length)) ((l6Bytes 0 2).bind fun l6Bytes_2=>
 (need (fits ((l6Bytes_++l6Bytes_1).length+l6Bytes_2.length)) ((l6Bytes many 2).bind fun l6Bytes_3=>
 (need (fits (((l6Bytes_++l6Bytes_1)++l6Bytes_2).length+l6Bytes_3.length)) ((l6Bytes many 2).bind fun l6Bytes_4=>
 (need (fits ((((l6Bytes_++l6Bytes_1)++l6Bytes_2)++l6Bytes_3).length+l6Bytes_4.length)) ((l6Bytes long 4).bind fun l6Bytes_5=>
 (need (fits (((((l6Bytes_++l6Bytes_1)++l6Bytes_2)++l6Bytes_3)++l6Bytes_4).length+l6Bytes_5.length)) ((l6Bytes at_ 4).bind fun l6Bytes_6=>
 (need (fits ((((((l6Bytes_++l6Bytes_1)++l6Bytes_2)++l6Bytes_3)++l6Bytes_4)++l6Bytes_5).length+l6Bytes_6.length)) ((l6Bytes 0 2).bind fun l6Bytes_7=>
 (need (fits (((((((l6Bytes_++l6Bytes_1)++l6Bytes_2)++l6Bytes_3)++l6Bytes_4)++l6Bytes_5)++l6Bytes_6).length+l6Bytes_7.length)) (some (((((((l6Bytes_++l6Bytes_1)++l6Bytes_2)++l6Bytes_3)++l6Bytes_4)++l6Bytes_5)++l6Bytes_6)++l6Bytes_7)))))))))))))))))
def l7Put.l0.step (again:((List (Str×Int×Int×Int×Int×Int×Int×Str))×Str×Str×Int)→Option ((List (Str×Int×Int×Int×Int×Int×Int×Str))×Str×Str)):((List (Str×Int×Int×Int×Int×Int×Int×Str))×Str×Str×Int)→Option ((List (Str×Int×Int×Int×Int×Int×Int×Str))×Str×Str):=fun (list1,out,heads,i)=>
 (bif (decide (i<(list1.length:Int))) then (need (decide (0≤i)&&decide (i<list1.length)) ((l7Central ((list1.getD i.toNat ([],0,0,0,0,0,0,[])).1) ((list1.getD i.toNat ([],0,0,0,0,0,0,[])).2.1) ((list1.getD i.toNat ([],0,0,0,0,0,0,[])).2.2.1) ((list1.getD i.toNat ([],0,0,0,0,0,0,[])).2.2.2.1) ((list1.getD i.toNat ([],0,0,0,0,0,0,[])).2.2.2.2.1) ((list1.getD i.toNat ([],0,0,0,0,0,0,[])).2.2.2.2.2.1) ((list1.getD i.toNat ([],0,0,0,0,0,0,[])).2.2.2.2.2.2.1) ((list1.getD i.toNat ([],0,0,0,0,0,0,[])).2.2.2.2.2.2.2) (out.length:Int)).bind fun l7Centra=>
 (need (fits (heads.length+l7Centra.length)) (need (decide (0≤i)&&decide (i<list1.length)) ((l6Local ((list1.getD i.toNat ([],0,0,0,0,0,0,[])).1) ((list1.getD i.toNat ([],0,0,0,0,0,0,[])).2.1) ((list1.getD i.toNat ([],0,0,0,0,0,0,[])).2.2.1) ((list1.getD i.toNat ([],0,0,0,0,0,0,[])).2.2.2.1) ((list1.getD i.toNat ([],0,0,0,0,0,0,[])).2.2.2.2.1) ((list1.getD i.toNat ([],0,0,0,0,0,0,[])).2.2.2.2.2.1) ((list1.getD i.toNat ([],0,0,0,0,0,0,[])).2.2.2.2.2.2.1) ((list1.getD i.toNat ([],0,0,0,0,0,0,[])).2.2.2.2.2.2.2)).bind fun l6Local_=>
 (need (fits (out.length+l6Local_.length)) (again (list1,(out++l6Local_),(heads++l7Centra),(w64 (i+1)))))))))) else
 (some (list1,out,heads)))
def l7Put.l0:Nat→((List (Str×Int×Int×Int×Int×Int×Int×Str))×Str×Str×Int)→Option ((List (Str×Int×Int×Int×Int×Int×Int×Str))×Str×Str):=loopN (l7Put.l0.step)
theorem l7Put.l0.succ (n:Nat) (t:((List (Str×Int×Int×Int×Int×Int×Int×Str))×Str×Str×Int)):l7Put.l0 (n+1) t=l7Put.l0.step (l7Put.l0 n) t:=rfl
def l7Put (list:List (Str×Int×Int×Int×Int×Int×Int×Str)):Option (Str):=
 ((l7Put.l0 (((list.length:Int)-(0:Int)).toNat+1) (list,[],[],0)).bind fun (list2,out1,heads1)=>
 (need (fits (out1.length+heads1.length)) ((l7End (list2.length:Int) (heads1.length:Int) (out1.length:Int)).bind fun l7End_=>
 (need (fits ((out1++heads1).length+l7End_.length)) (some ((out1++heads1)++l7End_))))))
def l7Get.l0.step (again:(Str×Int×Int×Int×List (Str×Int×Int×Int×Int×Int×Int×Str))→Option ((Int×List (Str×Int×Int×Int×Int×Int×Int×Str))⊕(Int×Bool×List (Str×Int×Int×Int×Int×Int×Int×Str)))):(Str×Int×Int×Int×List (Str×Int×Int×Int×Int×Int×Int×Str))→Option ((Int×List (Str×Int×Int×Int×Int×Int×Int×Str))⊕(Int×Bool×List (Str×Int×Int×Int×Int×Int×Int×Str))):=fun (text1,many1,at_,i,out)=>
 (bif (decide (i<many1)) then (need (decide (0≤at_)&&decide (at_≤text1.length)) ((l6Read (text1.drop at_.toNat)).bind fun (r,r1,r2,r3,r4,r5,r6,r7,r8,r9)=>
 (bif (!r9) then ((some (at_,false,out)).map Sum.inr) else
 (need (fits (out.length+([(r,r1,r2,r3,r4,r5,r6,r7)]:List (Str×Int×Int×Int×Int×Int×Int×Str)).length)) (again (text1,many1,(w64 (at_+r8)),(w64 (i+1)),(out++[(r,r1,r2,r3,r4,r5,r6,r7)]))))))) else
 (some (.inl (at_,out))))
def l7Get.l0:Nat→(Str×Int×Int×Int×List (Str×Int×Int×Int×Int×Int×Int×Str))→Option ((Int×List (Str×Int×Int×Int×Int×Int×Int×Str))⊕(Int×Bool×List (Str×Int×Int×Int×Int×Int×Int×Str))):=loopN (l7Get.l0.step)
theorem l7Get.l0.succ (n:Nat) (t:(Str×Int×Int×Int×List (Str×Int×Int×Int×Int×Int×Int×Str))):l7Get.l0 (n+1) t=l7Get.l0.step (l7Get.l0 n) t:=rfl
def l7Get (text:Str) (many:Int):Option (Int×Bool×List (Str×Int×Int×Int×Int×Int×Int×Str)):=
 ((l7Get.l0 ((many-(0:Int)).toNat+1) (text,many,0,0,[])).bind fun r=>match r with
 | .inl (at_1,out1)=>(some (at_1,true,out1))
 | .inr r=>some r)
def l7Head (text:Str) (head:Int) (at_:Int):Option (Int×Bool):=
 ((l6Num text (w64 (head+28)) 2).bind fun l6Num_=>
 ((bif (decide (l6Num_<0)) then (some true) else
 (bif (decide ((w64 (head+(w64 (46+l6Num_))))>(text.length:Int))) then (some true) else
 (some (decide ((w64 ((w64 (at_+30))+l6Num_))>(text.length:Int)))))).bind fun c=>
 (bif c then (some (0,false)) else
 ((need (decide (0≤(w64 (head+32)))&&decide ((w64 (head+32))≤text.length)) (need (decide (0≤(w64 (head+6)))&&decide ((w64 (head+6))≤(w64 (head+32)))) (need (decide (0≤(w64 (at_+30)))&&decide ((w64 (at_+30))≤text.length)) (need (decide (0≤(w64 (at_+4)))&&decide ((w64 (at_+4))≤(w64 (at_+30)))) (bif (((text.take (w64 (head+32)).toNat).drop (w64 (head+6)).toNat)==((text.take (w64 (at_+30)).toNat).drop (w64 (at_+4)).toNat)) then (need (decide (0≤(w64 (head+(w64 (46+l6Num_)))))&&decide ((w64 (head+(w64 (46+l6Num_))))≤text.length)) (need (decide (0≤(w64 (head+46)))&&decide ((w64 (head+46))≤(w64 (head+(w64 (46+l6Num_)))))) (need (decide (0≤(w64 ((w64 (at_+30))+l6Num_)))&&decide ((w64 ((w64 (at_+30))+l6Num_))≤text.length)) (need (decide (0≤(w64 (at_+30)))&&decide ((w64 (at_+30))≤(w64 ((w64 (at_+30))+l6Num_)))) (some (((text.take (w64 (head+(w64 (46+l6Num_)))).toNat).drop (w64 (head+46)).toNat)==((text.take (w64 ((w64 (at_+30))+l6Num_)).toNat).drop (w64 (at_+30)).toNat))))))) else
 (some false)))))).bind fun same=>
 ((need (decide (0≤(w64 (head+6)))&&decide ((w64 (head+6))≤text.length)) (need (decide (0≤head)&&decide (head≤(w64 (head+6)))) ((l6Bytes 33639248 4).bind fun l6Bytes_=>
 ((l6Bytes 20 2).bind fun l6Bytes_1=>
 (need (fits (l6Bytes_.length+l6Bytes_1.length)) (bif (((text.take (w64 (head+6)).toNat).drop head.toNat)==(l6Bytes_++l6Bytes_1)) then (need (decide (0≤(w64 (head+46)))&&decide ((w64 (head+46))≤text.length)) (need (decide (0≤(w64 (head+32)))&&decide ((w64 (head+32))≤(w64 (head+46)))) ((l6Bytes 0 10).bind fun l6Bytes_2=>
 ((l6Bytes at_ 4).bind fun l6Bytes_3=>
 (need (fits (l6Bytes_2.length+l6Bytes_3.length)) (some (((text.take (w64 (head+46)).toNat).drop (w64 (head+32)).toNat)==(l6Bytes_2++l6Bytes_3)))))))) else
 (some false))))))).bind fun rest=>
 ((bif same then (some ((w64 (46+l6Num_)),rest)) else
 (some ((w64 (46+l6Num_)),false))).bind fun (c1,c2)=>
 (some (c1,c2))))))))
def specZipGet.l0.step (again:(Str×Int×Int×Int×Int×Int×List (Str×Int×Int×Int×Int×Int×Int×Str))→Option ((Str×Int×Int×Int×List (Str×Int×Int×Int×Int×Int×Int×Str))⊕(Bool×List (Str×Int×Int×Int×Int×Int×Int×Str)))):(Str×Int×Int×Int×Int×Int×List (Str×Int×Int×Int×Int×Int×Int×Str))→Option ((Str×Int×Int×Int×List (Str×Int×Int×Int×Int×Int×Int×Str))⊕(Bool×List (Str×Int×Int×Int×Int×Int×Int×Str))):=fun (text1,many,at_,head,own,i,list)=>
 (bif (decide (i<many)) then ((l7Head text1 head own).bind fun (r3,r4)=>
 (bif (!r4) then ((some (false,[])).map Sum.inr) else
 (need (decide (0≤own)&&decide (own≤text1.length)) ((l6Read (text1.drop own.toNat)).bind fun (r5,r6,r7,r8,r9,r10,r11,r12,r13,r14)=>
 (again (text1,many,at_,(w64 (head+r3)),(w64 (own+r13)),(w64 (i+1)),list)))))) else
 (some (.inl (text1,many,at_,head,list))))
def specZipGet.l0:Nat→(Str×Int×Int×Int×Int×Int×List (Str×Int×Int×Int×Int×Int×Int×Str))→Option ((Str×Int×Int×Int×List (Str×Int×Int×Int×Int×Int×Int×Str))⊕(Bool×List (Str×Int×Int×Int×Int×Int×Int×Str))):=loopN (specZipGet.l0.step)
theorem specZipGet.l0.succ (n:Nat) (t:(Str×Int×Int×Int×Int×Int×List (Str×Int×Int×Int×Int×Int×Int×Str))):specZipGet.l0 (n+1) t=specZipGet.l0.step (specZipGet.l0 n) t:=rfl
def specZipGet (text:Str):Option (Bool×List (Str×Int×Int×Int×Int×Int×Int×Str)):=
 ((l6Num text (w64 ((text.length:Int)-12)) 2).bind fun l6Num_=>
 ((l1In l6Num_ 0 6).bind fun l1In_=>
 (bif (!l1In_) then (some (false,[])) else
 ((l7Get text l6Num_).bind fun (r,r1,r2)=>
 ((bif (!r1) then (some true) else
 ((specZipOk r2).bind fun ZipOk=>
 (some (!ZipOk)))).bind fun c=>
 (bif c then (some (false,[])) else
 ((specZipGet.l0 ((l6Num_-(0:Int)).toNat+1) (text,l6Num_,r,r,0,0,r2)).bind fun r=>match r with
 | .inl (text2,many1,at_1,head1,list1)=>(need (decide (0≤head1)&&decide (head1≤text2.length)) ((l7End many1 (w64 (head1-at_1)) at_1).bind fun l7End_=>
 (bif (!((text2.drop head1.toNat)==l7End_)) then (some (false,[])) else
 (some (true,list1)))))
 | .inr r=>some r)))))))
def l8Clash.l0.step (again:((List (Str×Int×Int×Int×Int×Int×Int×Str))×Str×Int)→Option ((Unit)⊕(Bool))):((List (Str×Int×Int×Int×Int×Int×Int×Str))×Str×Int)→Option ((Unit)⊕(Bool)):=fun (list1,name1,i)=>
 (bif (decide (i<(list1.length:Int))) then ((need (decide (0≤i)&&decide (i<list1.length)) (bif ((list1.getD i.toNat ([],0,0,0,0,0,0,[])).1==name1) then (some true) else
 (need (decide (0≤i)&&decide (i<list1.length)) ((l7Under ((list1.getD i.toNat ([],0,0,0,0,0,0,[])).1) name1).bind fun l7Under_=>
 (bif l7Under_ then (some true) else
 (need (decide (0≤i)&&decide (i<list1.length)) ((l7Under name1 ((list1.getD i.toNat ([],0,0,0,0,0,0,[])).1)).bind fun l7Under_1=>
 (some l7Under_1)))))))).bind fun c=>
 (bif c then ((some true).map Sum.inr) else
 (again (list1,name1,(w64 (i+1)))))) else
 (some (.inl ())))
def l8Clash.l0:Nat→((List (Str×Int×Int×Int×Int×Int×Int×Str))×Str×Int)→Option ((Unit)⊕(Bool)):=loopN (l8Clash.l0.step)
theorem l8Clash.l0.succ (n:Nat) (t:((List (Str×Int×Int×Int×Int×Int×Int×Str))×Str×Int)):l8Clash.l0 (n+1) t=l8Clash.l0.step (l8Clash.l0 n) t:=rfl
def l8Clash (list:List (Str×Int×Int×Int×Int×Int×Int×Str)) (name:Str):Option (Bool):=
 ((l8Clash.l0 (((list.length:Int)-(0:Int)).toNat+1) (list,name,0)).bind fun r=>match r with
 | .inl _=>(some false)
 | .inr r=>some r)
def l8Without (list:List (Str×Int×Int×Int×Int×Int×Int×Str)) (k:Int):Option (List (Str×Int×Int×Int×Int×Int×Int×Str)):=
 (need (decide (0≤k)&&decide (k≤list.length)) (need (fits (([]:List (Str×Int×Int×Int×Int×Int×Int×Str)).length+(list.take k.toNat).length)) (need (decide (0≤(w64 (k+1)))&&decide ((w64 (k+1))≤list.length)) (need (fits (([]++(list.take k.toNat)).length+(list.drop (w64 (k+1)).toNat).length)) (some (([]++(list.take k.toNat))++(list.drop (w64 (k+1)).toNat)))))))
def l8Add (name:Str) (y:Int) (mo:Int) (d:Int) (h:Int) (mi:Int) (sec:Int) (text:Str) (list:List (Str×Int×Int×Int×Int×Int×Int×Str)):Option (Int×List (Str×Int×Int×Int×Int×Int×Int×Str)):=
 ((specEntryOk name y mo d h mi sec text).bind fun EntryOk=>
 (bif (!EntryOk) then (some (1,list)) else
 ((l8Clash list name).bind fun l8Clash_=>
 (bif l8Clash_ then (some (3,list)) else
 (bif (decide ((list.length:Int)≥6)) then (some (4,list)) else
 (need (fits (([]:List (Str×Int×Int×Int×Int×Int×Int×Str)).length+list.length)) (need (fits (([]++list).length+([(name,y,mo,d,h,mi,sec,text)]:List (Str×Int×Int×Int×Int×Int×Int×Str)).length)) (some (0,(([]++list)++[(name,y,mo,d,h,mi,sec,text)]))))))))))
def specZipAdd (text:Str) (ename:Str) (ey:Int) (emo:Int) (ed:Int) (eh:Int) (emi:Int) (esec:Int) (etext:Str):Option (Str×Int):=
 ((specZipGet text).bind fun (r,r1)=>
 (bif (!r) then (some ([],1)) else
 ((l8Add ename ey emo ed eh emi esec etext r1).bind fun (r2,r3)=>
 (bif (r2 != 0) then (some (text,r2)) else
 ((l7Put r3).bind fun l7Put_=>
 (some (l7Put_,0)))))))
def specZipDrop (text:Str) (name:Str):Option (Str×Int):=
 ((specZipGet text).bind fun (r,r1)=>
 ((l7At r1 name).bind fun l7At_=>
 (bif (!r) then (some ([],1)) else
 (bif (decide (l7At_<0)) then (some (text,2)) else
 ((l8Without r1 l7At_).bind fun l8Withou=>
 ((l7Put l8Withou).bind fun l7Put_=>
 (some (l7Put_,0))))))))
def l8Same (text:Str) (ok:Bool):Option (Str):=
 (bif (!ok) then (some []) else
 (some text))
def specZipSwap (text:Str) (ename:Str) (ey:Int) (emo:Int) (ed:Int) (eh:Int) (emi:Int) (esec:Int) (etext:Str):Option (Str×Int):=
 ((specZipGet text).bind fun (r,r1)=>
 ((l7At r1 ename).bind fun l7At_=>
 ((bif (!r) then (some true) else
 ((specEntryOk ename ey emo ed eh emi esec etext).bind fun EntryOk=>
 (some (!EntryOk)))).bind fun c=>
 (bif c then ((l8Same text r).bind fun l8Same_=>
 (some (l8Same_,1))) else
 (bif (decide (l7At_<0)) then (some (text,2)) else
 (need (decide (0≤l7At_)&&decide (l7At_<r1.length)) ((l7Put (r1.set l7At_.toNat (ename,ey,emo,ed,eh,emi,esec,etext))).bind fun l7Put_=>
 (some (l7Put_,0)))))))))
def specZipMove (text:Str) (name:Str) (to_:Str):Option (Str×Int):=
 ((specZipGet text).bind fun (r,r1)=>
 ((l7At r1 name).bind fun l7At_=>
 ((bif (!r) then (some true) else
 ((specNameOk to_).bind fun NameOk=>
 (some (!NameOk)))).bind fun c=>
 (bif c then ((l8Same text r).bind fun l8Same_=>
 (some (l8Same_,1))) else
 (bif (decide (l7At_<0)) then (some (text,2)) else
 ((l8Without r1 l7At_).bind fun l8Withou=>
 ((l8Clash l8Withou to_).bind fun l8Clash_=>
 (bif l8Clash_ then (some (text,3)) else
 (need (decide (0≤l7At_)&&decide (l7At_<r1.length)) ((l7Put (r1.set l7At_.toNat (to_,(r1.getD l7At_.toNat ([],0,0,0,0,0,0,[])).2.1,(r1.getD l7At_.toNat ([],0,0,0,0,0,0,[])).2.2.1,(r1.getD l7At_.toNat ([],0,0,0,0,0,0,[])).2.2.2.1,(r1.getD l7At_.toNat ([],0,0,0,0,0,0,[])).2.2.2.2.1,(r1.getD l7At_.toNat ([],0,0,0,0,0,0,[])).2.2.2.2.2.1,(r1.getD l7At_.toNat ([],0,0,0,0,0,0,[])).2.2.2.2.2.2.1,(r1.getD l7At_.toNat ([],0,0,0,0,0,0,[])).2.2.2.2.2.2.2))).bind fun l7Put_=>
 (some (l7Put_,0))))))))))))
def pick (n:Int) (b:List Int) (p:Int):Option (Int×List Int×Int):=
 ((bif (decide (n<1)) then (some true) else
 (some ((b.length:Int)==0))).bind fun c=>
 (bif c then (some (0,b,(w64 (p+1)))) else
 (bif (decide ((w64 ((w64 (p+1))-1))<(b.length:Int))) then (need (decide (0≤(w64 ((w64 (p+1))-1)))&&decide ((w64 ((w64 (p+1))-1))<b.length)) (need (n != 0) (some (((w64 (b.getD (w64 ((w64 (p+1))-1)).toNat 0)).tmod n),b,(w64 (p+1)))))) else
 (need ((b.length:Int) != 0) (need (decide (0≤((w64 ((w64 (p+1))-1)).tmod (b.length:Int)))&&decide (((w64 ((w64 (p+1))-1)).tmod (b.length:Int))<b.length)) (need ((b.length:Int) != 0) (need (decide (0≤((w64 ((w64 ((w64 ((w64 (p+1))-1))*7))+3)).tmod (b.length:Int)))&&decide (((w64 ((w64 ((w64 ((w64 (p+1))-1))*7))+3)).tmod (b.length:Int))<b.length)) (need ((b.length:Int) != 0) (need (n != 0) (some (((ixor .i64 (w64 ((w64 ((w64 ((w64 ((w64 (b.getD ((w64 ((w64 (p+1))-1)).tmod (b.length:Int)).toNat 0))*131))+(w64 ((w64 (b.getD ((w64 ((w64 ((w64 ((w64 (p+1))-1))*7))+3)).tmod (b.length:Int)).toNat 0))*1117))))+(w64 ((w64 ((w64 (p+1))-1))*29))))+(w64 ((w64 ((w64 ((w64 (p+1))-1)).tdiv (b.length:Int)))*53)))) (w64 ((w64 ((w64 ((w64 ((w64 ((w64 (b.getD ((w64 ((w64 (p+1))-1)).tmod (b.length:Int)).toNat 0))*131))+(w64 ((w64 (b.getD ((w64 ((w64 ((w64 ((w64 (p+1))-1))*7))+3)).tmod (b.length:Int)).toNat 0))*1117))))+(w64 ((w64 ((w64 (p+1))-1))*29))))+(w64 ((w64 ((w64 ((w64 (p+1))-1)).tdiv (b.length:Int)))*53)))).tdiv 64))).tmod n),b,(w64 (p+1)))))))))))))
def toStamp (y:Int) (mo:Int) (d:Int) (h:Int) (mi:Int) (sec:Int):Option (Int×Int×Int×Int×Int×Int):=
 (some (y,mo,d,h,mi,sec))
def szEntry (name:Str) (y:Int) (mo:Int) (d:Int) (h:Int) (mi:Int) (sec:Int) (text:Str) (n:Int):Option (Int):=
 (bif (decide ((w64 (n-(name.length:Int)))<0)) then (some (-1)) else
 (bif (decide ((w64 ((w64 (n-(name.length:Int)))-(text.length:Int)))<0)) then (some (-1)) else
 (some (w64 ((w64 (n-(name.length:Int)))-(text.length:Int))))))
def toEntry (name:Str) (y:Int) (mo:Int) (d:Int) (h:Int) (mi:Int) (sec:Int) (text:Str):Option (Str×Int×Int×Int×Int×Int×Int×Str):=
 ((toStamp y mo d h mi sec).bind fun (r,r1,r2,r3,r4,r5)=>
 (some (name,r,r1,r2,r3,r4,r5,text)))
def specZipJoin.l0.step (again:(Str×Int×(List (Str×Int×Int×Int×Int×Int×Int×Str))×List (Str×Int×Int×Int×Int×Int×Int×Str))→Option ((List (Str×Int×Int×Int×Int×Int×Int×Str))⊕(Str×Int))):(Str×Int×(List (Str×Int×Int×Int×Int×Int×Int×Str))×List (Str×Int×Int×Int×Int×Int×Int×Str))→Option ((List (Str×Int×Int×Int×Int×Int×Int×Str))⊕(Str×Int)):=fun (a1,i,out,list)=>
 (bif (decide (i<(list.length:Int))) then (need (decide (0≤i)&&decide (i<list.length)) ((l8Add ((list.getD i.toNat ([],0,0,0,0,0,0,[])).1) ((list.getD i.toNat ([],0,0,0,0,0,0,[])).2.1) ((list.getD i.toNat ([],0,0,0,0,0,0,[])).2.2.1) ((list.getD i.toNat ([],0,0,0,0,0,0,[])).2.2.2.1) ((list.getD i.toNat ([],0,0,0,0,0,0,[])).2.2.2.2.1) ((list.getD i.toNat ([],0,0,0,0,0,0,[])).2.2.2.2.2.1) ((list.getD i.toNat ([],0,0,0,0,0,0,[])).2.2.2.2.2.2.1) ((list.getD i.toNat ([],0,0,0,0,0,0,[])).2.2.2.2.2.2.2) out).bind fun (r4,r5)=>
 (bif (r4 != 0) then ((some (a1,r4)).map Sum.inr) else
 (again (a1,(w64 (i+1)),r5,list))))) else
 (some (.inl out)))
def specZipJoin.l0:Nat→(Str×Int×(List (Str×Int×Int×Int×Int×Int×Int×Str))×List (Str×Int×Int×Int×Int×Int×Int×Str))→Option ((List (Str×Int×Int×Int×Int×Int×Int×Str))⊕(Str×Int)):=loopN (specZipJoin.l0.step)
theorem specZipJoin.l0.succ (n:Nat) (t:(Str×Int×(List (Str×Int×Int×Int×Int×Int×Int×Str))×List (Str×Int×Int×Int×Int×Int×Int×Str))):specZipJoin.l0 (n+1) t=specZipJoin.l0.step (specZipJoin.l0 n) t:=rfl
def specZipJoin (a:Str) (b:Str):Option (Str×Int):=
 ((specZipGet a).bind fun (r,r1)=>
 ((specZipGet b).bind fun (r2,r3)=>
 ((bif (!r) then (some true) else
 (some (!r2))).bind fun c=>
 (bif c then (some ([],1)) else
 ((specZipJoin.l0 (((r3.length:Int)-(0:Int)).toNat+1) (a,0,r1,r3)).bind fun r=>match r with
 | .inl out1=>((l7Put out1).bind fun l7Put_=>
 (some (l7Put_,0)))
 | .inr r=>some r)))))
def FnExactZipDrop (text:Str) (name:Str):Option (Bool):=
 (bif (decide ((text.length:Int)>1048576)) then (some true) else
 (bif (decide ((name.length:Int)>1048576)) then (some true) else
 ((specZipDrop text name).bind fun (r,r1)=>
 ((zipDrop text name).bind fun (r2,r3)=>
 ((bif (!(r2==r)) then (some true) else
 (some (r3 != r1))).bind fun c=>
 (bif c then (some false) else
 (some true)))))))
def FnExactZipMove (text:Str) (name:Str) (to_:Str):Option (Bool):=
 (bif (decide ((text.length:Int)>1048576)) then (some true) else
 (bif (decide ((name.length:Int)>1048576)) then (some true) else
 (bif (decide ((to_.length:Int)>1048576)) then (some true) else
 ((specZipMove text name to_).bind fun (r,r1)=>
 ((zipMove text name to_).bind fun (r2,r3)=>
 ((bif (!(r2==r)) then (some true) else
 (some (r3 != r1))).bind fun c=>
 (bif c then (some false) else
 (some true))))))))
def FnExactZipJoin (a:Str) (b:Str):Option (Bool):=
 (bif (decide ((a.length:Int)>1048576)) then (some true) else
 (bif (decide ((b.length:Int)>1048576)) then (some true) else
 ((specZipJoin a b).bind fun (r,r1)=>
 ((zipJoin a b).bind fun (r2,r3)=>
 ((bif (!(r2==r)) then (some true) else
 (some (r3 != r1))).bind fun c=>
 (bif c then (some false) else
 (some true)))))))
def FnExactZipSwap (text:Str) (ename:Str) (ey:Int) (emo:Int) (ed:Int) (eh:Int) (emi:Int) (esec:Int) (etext:Str):Option (Bool):=
 (bif (decide ((text.length:Int)>1048576)) then (some true) else
 ((szEntry ename ey emo ed eh emi esec etext 1048576).bind fun szEntry_=>
 (bif (decide (szEntry_<0)) then (some true) else
 ((toEntry ename ey emo ed eh emi esec etext).bind fun (r,r1,r2,r3,r4,r5,r6,r7)=>
 ((specZipSwap text r r1 r2 r3 r4 r5 r6 r7).bind fun (r8,r9)=>
 ((toEntry ename ey emo ed eh emi esec etext).bind fun (r10,r11,r12,r13,r14,r15,r16,r17)=>
 ((zipSwap text r10 r11 r12 r13 r14 r15 r16 r17).bind fun (r18,r19)=>
 ((bif (!(r18==r8)) then (some true) else
 (some (r19 != r9))).bind fun c=>
 (bif c then (some false) else
 (some true))))))))))
def FnExactZipAdd (text:Str) (ename:Str) (ey:Int) (emo:Int) (ed:Int) (eh:Int) (emi:Int) (esec:Int) (etext:Str):Option (Bool):=
 (bif (decide ((text.length:Int)>1048576)) then (some true) else
 ((szEntry ename ey emo ed eh emi esec etext 1048576).bind fun szEntry_=>
 (bif (decide (szEntry_<0)) then (some true) else
 ((toEntry ename ey emo ed eh emi esec etext).bind fun (r,r1,r2,r3,r4,r5,r6,r7)=>
 ((specZipAdd text r r1 r2 r3 r4 r5 r6 r7).bind fun (r8,r9)=>
 ((toEntry ename ey emo ed eh emi esec etext).bind fun (r10,r11,r12,r13,r14,r15,r16,r17)=>
 ((zipAdd text r10 r11 r12 r13 r14 r15 r16 r17).bind fun (r18,r19)=>
 ((bif (!(r18==r8)) then (some true) else
 (some (r19 != r9))).bind fun c=>
 (bif c then (some false) else
 (some true))))))))))
end Ev
end
