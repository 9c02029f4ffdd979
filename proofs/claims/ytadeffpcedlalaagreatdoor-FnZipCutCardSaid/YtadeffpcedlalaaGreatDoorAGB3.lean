/- Plain laws about what the functions compute. Conditions: as stated. -/
import Derived.Test.YtadeffpcedlalaaGreatDoorAGB2
set_option linter.unusedVariables false
set_option linter.unusedSimpArgs false
section
namespace Ev
open Go
def Zto:List Str:=[[97],[98,46,116,120,116],[100,105,114,47,97],[100,105,114,47,98],[120,45,121,95,122],[97,47,98,47,99,47,100],[114,101,97,100,109,101]]
def ZwP (k:Nat):Str:=[102]++[UInt8.ofNat (48+k)]
theorem Ztn:∀a∈Zto,∀k∈List.range 6,hit (ZwP k) a=false:=by decide
theorem Zvn:∀m∈List.range 6,∀k∈List.range 6,m<k→hit (ZwP k) (ZwP m)=false:=by decide
theorem Zu4 {b:List Int} {p:Int} (h:Zi4 b p) (hp:p≤900000000):Ret (ZcU b p) (Zj0 b p 1 fun s=>Zdu s=true∧s∈Zto):=by
 unfold ZcU
 refine .bind (Zld _ h (by omega) (by decide) (by decide)) ?_
 rintro ⟨x,b2,p2⟩ ⟨rfl,k1,k2,k3⟩
 dsimp only at k1 k2 k3 ⊢
 refine .pure ⟨rfl,k1,k2,?_⟩
 dsimp only
 simp only [List.mem_cons,List.not_mem_nil,or_false] at k3
 rcases k3 with rfl | rfl | rfl | rfl | rfl | rfl | rfl<;>exact ⟨by decide +kernel,by decide⟩
theorem ZtE {b:List Int} {p:Int} (h:Zi4 b p) (hp:p≤800000000):Ret (ZbN b p) (ZvR b p 57 fun e=>ZbY e=true∧e.1∈Zto):=by
 unfold ZbN
 refine .bind (Zu4 h (by omega)) ?_
 rintro ⟨nm,b1,p1⟩ ⟨rfl,g1,g2,g3⟩
 dsimp only at g1 g2 g3 ⊢
 refine .bind (Zgh (h.up g1) (by omega)) ?_
 rintro _ ⟨y,mo,d,hh,mi,s,p2,rfl,k1,k2,k3⟩
 dsimp only
 refine .bind (ZlH ((h.up g1).up k1) (by omega)) ?_
 rintro ⟨t,b3,p3⟩ ⟨rfl,l1,l2,l3⟩
 dsimp only at l1 l2 l3 ⊢
 refine .pure ⟨(nm,y,mo,d,hh,mi,s,t),p3,rfl,by omega,by omega,?_,g3.2⟩
 unfold ZbY
 dsimp only
 rw [g3.1,k3,decide_eq_true l3];rfl
theorem Znw {b:List Int}:∀(j:Nat) (out:List Fil) (p:Int),Zi4 b p→p≤1000000+57*(4-j)→j≤4→out.length+j≤4→(ZeV out=true∧∀e∈out,e.1∈Zto)→
  Ret (ZaF.l0 (j+1) ((j:Int),b,p,out)) fun r=>r.1=b∧p≤r.2.1∧r.2.1≤p+57*j∧r.2.2.length≤4∧ZeV r.2.2=true∧∀e∈r.2.2,e.1∈Zto
 | 0,out,p,h,hp,hj,hl,ho=>by
  rw [ZaF.l0.succ];simp only [ZaF.l0.step]
  rw [decide_eq_false (by omega)]
  exact .pure ⟨rfl,by dsimp only;omega,by dsimp only;omega,by dsimp only;omega,ho⟩
 | j+1,out,p,h,hp,hj,hl,ho=>by
  rw [ZaF.l0.succ];simp only [ZaF.l0.step]
  rw [decide_eq_true (by omega),cond_true]
  refine .bind (ZtE h (by omega)) ?_
  rintro _ ⟨e,p1,rfl,g1,g2,g3⟩
  unfold entZ
  dsimp only
  have hnl:=ZcB (Zby g3.1).1
  rw [Zsg out (by omega) e (by omega)]
  simp only [Zaa]
  rw [Zaf (by omega) (by omega),show ((j+1:Nat):Int)-1=(j:Int) by omega]
  refine (Znw j _ p1 (h.up g1) (by omega) (by omega) ?_ ?_).mono ?_
  ·split
   ·simp;omega
   ·omega
  ·split
   ·rename_i hc
    refine ⟨(Zw6 ho.1 hc).1,fun x hx=>?_⟩
    rcases List.mem_append.1 hx with hx | hx
    ·exact ho.2 x hx
    ·have:x=e:=by simpa using hx
     subst this;exact g3.2
   ·exact ho
  ·rintro r ⟨q1,q2,q3,q4,q5⟩
   exact ⟨q1,by omega,by omega,q4,q5⟩
theorem Zv1 {es:List Fil} {e:Fil} (h:ZeV es=true) (h6:es.length<6) (hf:ZbY e=true) (hn:∀x∈es,hit e.1 x.1=false):ZeV (es++[e])=true:=by
 obtain ⟨h1,h2,h3⟩:=(Zkw es).1 h
 rw [Zkw]
 refine ⟨fun x hx=>?_,by simp;omega,?_⟩
 ·rcases List.mem_append.1 hx with hx | hx
  ·exact h1 x hx
  ·have:x=e:=by simpa using hx
   subst this;exact hf
 ·rw [List.map_append]
  refine List.pairwise_append.2 ⟨h3,by simp,fun a ha b hb=>?_⟩
  have:b=e.1:=by simpa using hb
  subst this
  obtain ⟨x,hx,rfl⟩:=List.mem_map.1 ha
  exact hn x hx
theorem Znv {b:List Int}:∀(j k:Nat) (out:List Fil) (p:Int),k+j=6→Zi4 b p→p≤2000000+6*(6-j)→out.length=k→ZeV out=true→(∀e∈out,e.1∈Zto∨∃m,m<k∧e.1=ZwP m)→
  Ret (ZaF.l1 (j+1) ((k:Int),b,p,out)) fun r=>r.1=b∧p≤r.2.1∧r.2.1≤p+6*j∧ZeV r.2.2=true
 | 0,k,out,p,hk,h,hp,hl,hz,ho=>by
  rw [ZaF.l1.succ];simp only [ZaF.l1.step]
  rw [decide_eq_false (by omega)]
  exact .pure ⟨rfl,by dsimp only;omega,by dsimp only;omega,hz⟩
 | j+1,k,out,p,hk,h,hp,hl,hz,ho=>by
  rw [ZaF.l1.succ];simp only [ZaF.l1.step]
  have hd:=(ZoI k (by omega) (Zug (y:=1980) (mo:=1) (d:=1) (h:=0) (mi:=0) (s:=0) (by omega) (by omega) (by omega) (by omega) (by omega) (by omega) (by omega))).1
  rw [decide_eq_true (by omega),cond_true,hd]
  simp only [Zaa]
  rw [Zad (by simp)]
  refine .bind (Zgh h (by omega)) ?_
  rintro _ ⟨y,mo,d,hh,mi,s,p1,rfl,g1,g2,g3⟩
  dsimp only
  have hf:=(ZoI k (by omega) g3).2
  rw [Zad (by simp;omega),Zaf (by omega) (by omega),show (k:Int)+1=((k+1:Nat):Int) by omega]
  refine (Znv j (k+1) _ p1 (by omega) (h.up g1) (by omega) (by simp;omega) ?_ ?_).mono ?_
  ·refine Zv1 hz (by omega) hf.2 (fun x hx=>?_)
   rcases ho x hx with q | ⟨m,hm,q⟩
   ·exact Ztn x.1 q k (List.mem_range.2 (by omega))
   ·rw [q];exact Zvn m (List.mem_range.2 (by omega)) k (List.mem_range.2 (by omega)) hm
  ·intro x hx
   rcases List.mem_append.1 hx with hx | hx
   ·rcases ho x hx with q | ⟨m,hm,q⟩
    ·exact .inl q
    ·exact .inr ⟨m,by omega,q⟩
   ·have:x=([102]++[UInt8.ofNat (48+k)],y,mo,d,hh,mi,s,[]):=by simpa using hx
    subst this;exact .inr ⟨k,by omega,rfl⟩
  ·rintro r ⟨q1,q2,q3,q4⟩
   exact ⟨q1,by omega,by omega,q4⟩
theorem Zu5 {b:List Int} {p:Int} (h:Zi4 b p) (hp:p≤1000):Ret (ZaF b p) (ZvQ b p 300 fun es=>ZeV es=true):=by
 unfold ZaF
 refine .bind (ZdH 5 h (by omega) (by omega) (by omega)) ?_
 rintro ⟨n,b1,p1⟩ ⟨rfl,g1,g2,g3⟩
 dsimp only at g1 g2 g3 ⊢
 obtain ⟨n,rfl⟩:=Int.eq_ofNat_of_zero_le g3.1
 rw [show ((n:Int)-0).toNat+1=n+1 by omega]
 refine .bind (Znw n [] p1 (h.up g1) (by omega) (by omega) (by simp;omega) ⟨rfl,by simp⟩) ?_
 rintro ⟨b2,p2,out⟩ ⟨rfl,k1,k2,k3,k4,k5⟩
 dsimp only at k1 k2 k3 k4 k5 ⊢
 refine .bind (ZdH 24 ((h.up g1).up k1) (by omega) (by omega) (by omega)) ?_
 rintro ⟨x,b3,p3⟩ ⟨rfl,l1,l2,l3⟩
 dsimp only at l1 l2 l3 ⊢
 refine .cond (fun _=>?_) fun _=>.pure ⟨rfl,by dsimp only;omega,by dsimp only;omega,k4⟩
 rw [show (6-((out.length:Nat):Int)).toNat+1=(6-out.length)+1 by omega]
 refine .bind (Znv (6-out.length) out.length out p3 (by omega) (((h.up g1).up k1).up l1) (by omega) rfl k4 (fun e he=>.inl (k5 e he))) ?_
 rintro ⟨b4,p4,out2⟩ ⟨rfl,m1,m2,m3⟩
 dsimp only at m1 m2 m3 ⊢
 exact .pure ⟨rfl,by dsimp only;omega,by dsimp only;omega,m3⟩
theorem ZwI {b:List Int} {p:Int} (h:Zi4 b p) (hp:p≤1000):Ret (ZfG b p) (Zj0 b p 300 fun s=>∃es,ZeV es=true∧s=Zen es):=by
 unfold ZfG
 refine .bind (Zu5 h hp) ?_
 rintro ⟨b1,p1,es⟩ ⟨rfl,g1,g2,g3⟩
 dsimp only at g1 g2 g3 ⊢
 rw [Zsi es (by have:=(ZcH g3).2;omega) (ZcH g3).1]
 simp only [Zaa]
 exact .pure ⟨rfl,g1,g2,es,g3,rfl⟩
theorem ZqA (xs:List Int) (h:ZgU xs) (hl:xs.length≤1048576):Ret (Zcm xs) fun s=>s.length≤4000:=by
 unfold Zcm
 refine .bind (Zoq xs h hl) ?_
 rintro ⟨b,p⟩ ⟨rfl,hr⟩
 dsimp only at hr ⊢
 refine .bind (ZwI hr (by omega)) ?_
 rintro ⟨s,b1,p1⟩ ⟨rfl,g1,g2,es,g3,g4⟩
 dsimp only at g1 g2 g4 ⊢
 subst g4
 have:=ZhW es g3
 refine .bind (Zp8 (Zen es) (by omega) (hr.up g1) (by omega)) ?_
 rintro ⟨t,b2,p2⟩ ⟨rfl,k1,k2,k3⟩
 dsimp only at k3 ⊢
 exact .pure (by omega)
end Ev
end
section
namespace Ev
open Go
theorem ZqL (xs:List Fil) (hn:xs.length≤1048576):∀(j i:Nat),i+j=xs.length→Zct.l0 (j+1) (xs,xs,(i:Int))=some (.inl ())
 | 0,i,h=>by
  rw [Zct.l0.succ];simp only [Zct.l0.step]
  rw [ZaZ (by omega)];rfl
 | j+1,i,h=>by
  have hi:i<xs.length:=by omega
  rw [Zct.l0.succ];simp only [Zct.l0.step]
  rw [ZaY hi,cond_true,Zab _ ZaB,Zab _ ZaB]
  simp only [beq_self_eq_true,Bool.and_self,Bool.not_true,cond_false]
  rw [Zaf (by omega) (by omega),show (i:Int)+1=((i+1:Nat):Int) by omega]
  exact ZqL xs hn j (i+1) (by omega)
theorem ZgJ (xs:List Fil) (hn:xs.length≤1048576):Zct xs xs=some true:=by
 unfold Zct
 have h:=ZqL xs hn xs.length 0 (by omega)
 rw [show ((0:Nat):Int)=0 from rfl] at h
 rw [ZaG,h]
 simp
theorem ZsZ (es:List Fil) (hz:ZeV es=true) (s:Str) (x:List Fil):∀(j i n:Nat),i+j=es.length→n≤100000+500*i→
  FnZip.l0 (j+1) (s,true,(n:Int),(i:Int),es,x)=some (s,true,((n+(((es.drop i).map fun e=>(Zdh e).length+46+e.1.length).sum):Nat):Int),es,x)
 | 0,i,n,h,hn=>by
  rw [FnZip.l0.succ];simp only [FnZip.l0.step]
  rw [ZaZ (by omega),List.drop_eq_nil_of_le (by omega)];rfl
 | j+1,i,n,h,hn=>by
  have hi:i<es.length:=by omega
  have h6:=(ZcH hz).2
  have hf:=(ZcH hz).1 es[i] (List.getElem_mem hi)
  have hle:=Zhb hf
  have hnm:=Zi6 hz es[i] (List.getElem_mem hi)
  rw [FnZip.l0.succ];simp only [FnZip.l0.step]
  rw [ZaY hi,cond_true,Zab _ ZaB,Int.toNat_natCast,Zhy es i hi,Zju _ (by omega)]
  simp only [Zaa]
  have hp:ZvV es[i]=Zdh es[i]:=by unfold ZvV;rw [if_pos hf]
  rw [Zab _ ZaB,hp,Zaf (n:=(n:Int)+((Zdh es[i]).length:Int)) (by omega) (by omega),Zaf (n:=(n:Int)+((Zdh es[i]).length:Int)+46) (by omega) (by omega),Zaf (by omega) (by omega),Zaf (by omega) (by omega),show (i:Int)+1=((i+1:Nat):Int) by omega,
   show (n:Int)+((Zdh es[i]).length:Int)+46+((es[i].1.length:Nat):Int)=((n+((Zdh es[i]).length+46+es[i].1.length):Nat):Int) by omega]
  rw [ZsZ es hz s x j (i+1) _ (by omega) (by omega),List.drop_eq_getElem_cons hi,List.map_cons,List.sum_cons,Nat.add_assoc n]
theorem Zxs (es:List Fil):(es.map fun e=>(Zdh e).length+46+e.1.length).sum=ZeS (es.map Zdh)+(es.map fun e=>46+e.1.length).sum:=by
 induction es with
 | nil=>rfl
 | cons e r ih=>
  have hs:ZeS (List.map Zdh (e::r))=(Zdh e).length+ZeS (r.map Zdh):=by unfold ZeS;simp
  rw [hs,List.map_cons,List.sum_cons,List.map_cons,List.sum_cons,ih];omega
theorem ZtX (xs:List Int) (h:ZgU xs):FnZip xs=some true:=by
 unfold FnZip
 by_cases c:xs.length>1048576
 ·rw [decide_eq_true (by omega)];rfl
 rw [decide_eq_false (by omega),cond_false]
 obtain ⟨es,he,hs,h1,h2,h3,h4⟩:=ZdS h (by omega)
 rw [he]
 simp only [Zaa]
 rw [h1,h2,h3,h4]
 simp only [Zaa,beq_self_eq_true,Bool.not_true,cond_false]
 cases hz:ZeV es with
 | false=>simp only [Bool.not_false,cond_true,Zaa]
 | true=>
  simp only [Bool.not_true,cond_false]
  rw [if_pos trivial,ZrL hz]
  simp only [Zaa]
  have hl:=ZsZ es hz (Zen es) es es.length 0 22 (by omega) (by omega)
  rw [show ((0:Nat):Int)=0 from rfl,show ((22:Nat):Int)=22 from rfl,List.drop_zero] at hl
  rw [ZaG,hl]
  simp only [Zaa,cond_true]
  rw [ZgJ es (by have:=hs.1;omega)]
  simp only [Zaa,cond_true]
  rw [Zxs,ZkS es (ZcH hz).1]
  have:((((ZeS (es.map Zdh)+(es.map fun e=>46+e.1.length).sum+22:Nat):Int)==((22+(ZeS (es.map Zdh)+(es.map fun e=>46+e.1.length).sum):Nat):Int)))=true:=by
   rw [beq_iff_eq];omega
  rw [this]
theorem ZoS (xs:List Int) (h:ZgU xs):FnZipGet xs=some true:=by
 unfold FnZipGet
 by_cases c:xs.length>1048576
 ·rw [decide_eq_true (by omega)];rfl
 rw [decide_eq_false (by omega),cond_false]
 obtain ⟨s,hs,hl⟩:=ZqA xs h (by omega)
 rw [hs]
 simp only [Zaa]
 rw [Zf3 s (by omega),Zn8 s (by omega)]
 simp only [Zaa]
 cases hz:Zdl s with
 | none=>
  simp only [zipZ]
  rw [ZgJ [] (by simp)]
  rfl
 | some es=>
  have hok:=Zs2 hz
  have h6:=(ZcH hok).2
  simp only [zipZ]
  rw [ZgJ es (by omega)]
  simp only [Zaa,beq_self_eq_true,Bool.not_true,cond_false]
  rw [Zv3 hok]
  simp only [Zaa]
  rw [ZrL hok]
  simp only [Zaa,cond_true]
  rw [ZgJ es (by omega)]
  simp only [Zaa,cond_true]
  rw [Zkv es (by omega) (Zr7 hok),hok]
  rfl
end Ev
end
