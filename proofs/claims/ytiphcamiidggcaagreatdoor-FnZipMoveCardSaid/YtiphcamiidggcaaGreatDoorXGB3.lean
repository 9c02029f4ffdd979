/- Plain laws about what the functions compute. Conditions: as stated. -/
import Derived.Test.YtiphcamiidggcaaGreatDoorXGB2
set_option linter.unusedVariables false
set_option linter.unusedSimpArgs false
section
namespace Ev
open Go
def ZuY:List Str:=[[97],[98,46,116,120,116],[100,105,114,47,97],[100,105,114,47,98],[120,45,121,95,122],[97,47,98,47,99,47,100],[114,101,97,100,109,101]]
def Zyt (k:Nat):Str:=[102]++[UInt8.ofNat (48+k)]
theorem ZuX:∀a∈ZuY,∀k∈List.range 6,hit (Zyt k) a=false:=by decide
theorem Zw3:∀m∈List.range 6,∀k∈List.range 6,m<k→hit (Zyt k) (Zyt m)=false:=by decide
theorem ZwK {b:List Int} {p:Int} (h:Zlz b p) (hp:p≤900000000):Ret (ZbV b p) (Zji b p 1 fun s=>ZcG s=true∧s∈ZuY):=by
 unfold ZbV
 refine .bind (Zjt _ h (by omega) (by decide) (by decide)) ?_
 rintro ⟨x,b2,p2⟩ ⟨rfl,k1,k2,k3⟩
 dsimp only at k1 k2 k3 ⊢
 refine .pure ⟨rfl,k1,k2,?_⟩
 dsimp only
 simp only [List.mem_cons,List.not_mem_nil,or_false] at k3
 rcases k3 with rfl | rfl | rfl | rfl | rfl | rfl | rfl<;>exact ⟨by decide +kernel,by decide⟩
theorem Zve {b:List Int} {p:Int} (h:Zlz b p) (hp:p≤800000000):Ret (Zcz b p) (Zxx b p 57 fun e=>Zcb e=true∧e.1∈ZuY):=by
 unfold Zcz
 refine .bind (ZwK h (by omega)) ?_
 rintro ⟨nm,b1,p1⟩ ⟨rfl,g1,g2,g3⟩
 dsimp only at g1 g2 g3 ⊢
 refine .bind (Ziu (h.up g1) (by omega)) ?_
 rintro _ ⟨y,mo,d,hh,mi,s,p2,rfl,k1,k2,k3⟩
 dsimp only
 refine .bind (ZmU ((h.up g1).up k1) (by omega)) ?_
 rintro ⟨t,b3,p3⟩ ⟨rfl,l1,l2,l3⟩
 dsimp only at l1 l2 l3 ⊢
 refine .pure ⟨(nm,y,mo,d,hh,mi,s,t),p3,rfl,by omega,by omega,?_,g3.2⟩
 unfold Zcb
 dsimp only
 rw [g3.1,k3,decide_eq_true l3];rfl
theorem ZoW {b:List Int}:∀(j:Nat) (out:List Fil) (p:Int),Zlz b p→p≤1000000+57*(4-j)→j≤4→out.length+j≤4→(ZdD out=true∧∀e∈out,e.1∈ZuY)→
  Ret (Zbk.l0 (j+1) ((j:Int),b,p,out)) fun r=>r.1=b∧p≤r.2.1∧r.2.1≤p+57*j∧r.2.2.length≤4∧ZdD r.2.2=true∧∀e∈r.2.2,e.1∈ZuY
 | 0,out,p,h,hp,hj,hl,ho=>by
  rw [Zbk.l0.succ];simp only [Zbk.l0.step]
  rw [decide_eq_false (by omega)]
  exact .pure ⟨rfl,by dsimp only;omega,by dsimp only;omega,by dsimp only;omega,ho⟩
 | j+1,out,p,h,hp,hj,hl,ho=>by
  rw [Zbk.l0.succ];simp only [Zbk.l0.step]
  rw [decide_eq_true (by omega),cond_true]
  refine .bind (Zve h (by omega)) ?_
  rintro _ ⟨e,p1,rfl,g1,g2,g3⟩
  unfold entZ
  dsimp only
  have hnl:=ZdE (ZbW g3.1).1
  rw [ZpO out (by omega) e (by omega)]
  simp only [Zaa]
  rw [Zaf (by omega) (by omega),show ((j+1:Nat):Int)-1=(j:Int) by omega]
  refine (ZoW j _ p1 (h.up g1) (by omega) (by omega) ?_ ?_).mono ?_
  ·split
   ·simp;omega
   ·omega
  ·split
   ·rename_i hc
    refine ⟨(Zem ho.1 hc).1,fun x hx=>?_⟩
    rcases List.mem_append.1 hx with hx | hx
    ·exact ho.2 x hx
    ·have:x=e:=by simpa using hx
     subst this;exact g3.2
   ·exact ho
  ·rintro r ⟨q1,q2,q3,q4,q5⟩
   exact ⟨q1,by omega,by omega,q4,q5⟩
theorem ZxF {es:List Fil} {e:Fil} (h:ZdD es=true) (h6:es.length<6) (hf:Zcb e=true) (hn:∀x∈es,hit e.1 x.1=false):ZdD (es++[e])=true:=by
 obtain ⟨h1,h2,h3⟩:=(Zc2 es).1 h
 rw [Zc2]
 refine ⟨fun x hx=>?_,by simp;omega,?_⟩
 ·rcases List.mem_append.1 hx with hx | hx
  ·exact h1 x hx
  ·have:x=e:=by simpa using hx
   subst this;exact hf
 ·rw [List.map_append]
  refine List.pairwise_append.2 ⟨h3,by simp,fun a ha b hb=>?_⟩
  have:b=e.1:=by simpa using hb
  subst this
  obtain ⟨x,hx,rfl⟩:=List.mem_map.1 ha
  exact hn x hx
theorem ZoV {b:List Int}:∀(j k:Nat) (out:List Fil) (p:Int),k+j=6→Zlz b p→p≤2000000+6*(6-j)→out.length=k→ZdD out=true→(∀e∈out,e.1∈ZuY∨∃m,m<k∧e.1=Zyt m)→
  Ret (Zbk.l1 (j+1) ((k:Int),b,p,out)) fun r=>r.1=b∧p≤r.2.1∧r.2.1≤p+6*j∧ZdD r.2.2=true
 | 0,k,out,p,hk,h,hp,hl,hz,ho=>by
  rw [Zbk.l1.succ];simp only [Zbk.l1.step]
  rw [decide_eq_false (by omega)]
  exact .pure ⟨rfl,by dsimp only;omega,by dsimp only;omega,hz⟩
 | j+1,k,out,p,hk,h,hp,hl,hz,ho=>by
  rw [Zbk.l1.succ];simp only [Zbk.l1.step]
  have hd:=(Zw2 k (by omega) (ZyP (y:=1980) (mo:=1) (d:=1) (h:=0) (mi:=0) (s:=0) (by omega) (by omega) (by omega) (by omega) (by omega) (by omega) (by omega))).1
  rw [decide_eq_true (by omega),cond_true,hd]
  simp only [Zaa]
  rw [Zad (by simp)]
  refine .bind (Ziu h (by omega)) ?_
  rintro _ ⟨y,mo,d,hh,mi,s,p1,rfl,g1,g2,g3⟩
  dsimp only
  have hf:=(Zw2 k (by omega) g3).2
  rw [Zad (by simp;omega),Zaf (by omega) (by omega),show (k:Int)+1=((k+1:Nat):Int) by omega]
  refine (ZoV j (k+1) _ p1 (by omega) (h.up g1) (by omega) (by simp;omega) ?_ ?_).mono ?_
  ·refine ZxF hz (by omega) hf.2 (fun x hx=>?_)
   rcases ho x hx with q | ⟨m,hm,q⟩
   ·exact ZuX x.1 q k (List.mem_range.2 (by omega))
   ·rw [q];exact Zw3 m (List.mem_range.2 (by omega)) k (List.mem_range.2 (by omega)) hm
  ·intro x hx
   rcases List.mem_append.1 hx with hx | hx
   ·rcases ho x hx with q | ⟨m,hm,q⟩
    ·exact .inl q
    ·exact .inr ⟨m,by omega,q⟩
   ·have:x=([102]++[UInt8.ofNat (48+k)],y,mo,d,hh,mi,s,[]):=by simpa using hx
    subst this;exact .inr ⟨k,by omega,rfl⟩
  ·rintro r ⟨q1,q2,q3,q4⟩
   exact ⟨q1,by omega,by omega,q4⟩
theorem ZwL {b:List Int} {p:Int} (h:Zlz b p) (hp:p≤1000):Ret (Zbk b p) (DrawnL b p 300 fun es=>ZdD es=true):=by
 unfold Zbk
 refine .bind (Zeu 5 h (by omega) (by omega) (by omega)) ?_
 rintro ⟨n,b1,p1⟩ ⟨rfl,g1,g2,g3⟩
 dsimp only at g1 g2 g3 ⊢
 obtain ⟨n,rfl⟩:=Int.eq_ofNat_of_zero_le g3.1
 rw [show ((n:Int)-0).toNat+1=n+1 by omega]
 refine .bind (ZoW n [] p1 (h.up g1) (by omega) (by omega) (by simp;omega) ⟨rfl,by simp⟩) ?_
 rintro ⟨b2,p2,out⟩ ⟨rfl,k1,k2,k3,k4,k5⟩
 dsimp only at k1 k2 k3 k4 k5 ⊢
 refine .bind (Zeu 24 ((h.up g1).up k1) (by omega) (by omega) (by omega)) ?_
 rintro ⟨x,b3,p3⟩ ⟨rfl,l1,l2,l3⟩
 dsimp only at l1 l2 l3 ⊢
 refine .cond (fun _=>?_) fun _=>.pure ⟨rfl,by dsimp only;omega,by dsimp only;omega,k4⟩
 rw [show (6-((out.length:Nat):Int)).toNat+1=(6-out.length)+1 by omega]
 refine .bind (ZoV (6-out.length) out.length out p3 (by omega) (((h.up g1).up k1).up l1) (by omega) rfl k4 (fun e he=>.inl (k5 e he))) ?_
 rintro ⟨b4,p4,out2⟩ ⟨rfl,m1,m2,m3⟩
 dsimp only at m1 m2 m3 ⊢
 exact .pure ⟨rfl,by dsimp only;omega,by dsimp only;omega,m3⟩
theorem ZjF {b:List Int} {p:Int} (h:Zlz b p) (hp:p≤1000):Ret (Zdq b p) (Zji b p 300 fun s=>∃es,ZdD es=true∧s=Zd0 es):=by
 unfold Zdq
 refine .bind (ZwL h hp) ?_
 rintro ⟨b1,p1,es⟩ ⟨rfl,g1,g2,g3⟩
 dsimp only at g1 g2 g3 ⊢
 rw [Zis es (by have:=(ZaK g3).2;omega) (ZaK g3).1]
 simp only [Zaa]
 exact .pure ⟨rfl,g1,g2,es,g3,rfl⟩
end Ev
end
section
namespace Ev
open Go
theorem Zsg (xs:List Fil) (hn:xs.length≤1048576):∀(j i:Nat),i+j=xs.length→ZcW.l0 (j+1) (xs,xs,(i:Int))=some (.inl ())
 | 0,i,h=>by
  rw [ZcW.l0.succ];simp only [ZcW.l0.step]
  rw [ZaR (by omega)];rfl
 | j+1,i,h=>by
  have hi:i<xs.length:=by omega
  rw [ZcW.l0.succ];simp only [ZcW.l0.step]
  rw [ZaQ hi,cond_true,Zab _ Zau,Zab _ Zau]
  simp only [beq_self_eq_true,Bool.and_self,Bool.not_true,cond_false]
  rw [Zaf (by omega) (by omega),show (i:Int)+1=((i+1:Nat):Int) by omega]
  exact Zsg xs hn j (i+1) (by omega)
theorem Znu (xs:List Fil) (hn:xs.length≤1048576):ZcW xs xs=some true:=by
 unfold ZcW
 have h:=Zsg xs hn xs.length 0 (by omega)
 rw [show ((0:Nat):Int)=0 from rfl] at h
 rw [ZaG,h]
 simp
theorem ZvO (es:List Fil):(es.map fun e=>(ZgI e).length+46+e.1.length).sum=ZfG (es.map ZgI)+(es.map fun e=>46+e.1.length).sum:=by
 induction es with
 | nil=>rfl
 | cons e r ih=>
  have hs:ZfG (List.map ZgI (e::r))=(ZgI e).length+ZfG (r.map ZgI):=by unfold ZfG;simp
  rw [hs,List.map_cons,List.sum_cons,List.map_cons,List.sum_cons,ih];omega
end Ev
end
section
namespace Ev
open Go
theorem ZlV (a:Str):hit a a=true:=by unfold hit;rw [beq_self_eq_true];rfl
theorem Zl6 {es:List Fil} (h:ZdD es=true) {i j:Nat} (hi:i<es.length) (hj:j<es.length) (hn:es[i].1=es[j].1):i=j:=by
 have hp:=((Zc2 es).1 h).2.2
 unfold Zss at hp
 rw [List.pairwise_map,List.pairwise_iff_getElem] at hp
 rcases Nat.lt_trichotomy i j with q | q | q
 ·have:=hp i j hi hj q
  rw [←hn,ZlV] at this;cases this
 ·exact q
 ·have:=hp j i hj hi q
  rw [←hn,ZlV] at this;cases this
theorem Zxs {es:List Fil} (h:ZdD es=true) {i:Nat} (hi:i<es.length):atM es es[i].1=some i:=by
 cases ha:atM es es[i].1 with
 | none=>exact absurd rfl (ZyH ha es[i] (List.getElem_mem hi))
 | some k=>
  obtain ⟨hk,e⟩:=ZeO ha
  rw [Zl6 h hk hi e]
def Zwl (es:List Fil) (n t:Str):Str×Int:=if ZcG t=false then (Zd0 es,1) else match atM es n with
  | none=>(Zd0 es,2)
  | some i=>if Zek (Zdf es i) t=true then (Zd0 es,3) else (Zd0 (ZgU es i t),0)
theorem ZvG {es:List Fil} (h:ZdD es=true) (n t:Str) (ht:t.length≤1048576):Zea (Zd0 es) n t=some (Zwl es n t):=by
 rw [Zn6 _ n t (Ze9 h) ht]
 unfold ZfD Zwl
 rw [Zc3 es h]<;>rfl
theorem Zx7 {es:List Fil} {n t:Str} {i:Nat} (hn:ZcG t=true) (ha:atM es n=some i):Zwl es n t=if Zek (Zdf es i) t=true then (Zd0 es,3) else (Zd0 (ZgU es i t),0):=by
 unfold Zwl
 rw [hn,ha]<;>rfl
theorem Zns {es:List Fil} (h:ZdD es=true) {i:Nat} (hi:i<es.length):Zek (Zdf es i) es[i].1=false:=by
 have h1:=ZnD es ((Zc2 es).1 h).2.2 i hi es[i].1
 have e:ZgU es i es[i].1=es:=by
  unfold ZgU
  rw [Zal hi]
  apply List.ext_getElem (by simp)
  intro k h1 h2
  rw [List.getElem_set]
  split
  ·rename_i hk;subst hk;rfl
  ·rfl
 rw [e,Zkb h] at h1
 cases hc:Zek (Zdf es i) es[i].1 with
 | false=>rfl
 | true=>rw [hc] at h1;cases h1
def Ztd (es:List Fil) (n:Str):Str×Int:=match atM es n with
  | none=>(Zd0 es,2)
  | some i=>(Zd0 (Zdf es i),0)
theorem Zqu {es:List Fil} (h:ZdD es=true) (n:Str):Zdj (Zd0 es) n=some (Ztd es n):=by
 rw [Zn9 _ n (Ze9 h)]
 unfold ZfE Ztd
 rw [Zc3 es h]<;>rfl
theorem Zyy {es:List Fil} {n:Str} {i:Nat} (ha:atM es n=some i):Ztd es n=(Zd0 (Zdf es i),0):=by
 unfold Ztd
 rw [ha]<;>rfl
end Ev
end
section
namespace Ev
open Go
theorem ZiG (a:Str) (more:List Fil) (hm:∀e∈more,e.1.length≤1048576) (hn:more.length≤1000):∀(j i:Nat) (es:List Fil),i+j=more.length→ZdD es=true→
  ZaE.l0 (j+1) (a,(i:Int),es,more)=some (if (ZdG es (more.drop i)).1=0 then .inl (ZdG es (more.drop i)).2 else .inr (a,(ZdG es (more.drop i)).1))
 | 0,i,es,h,hz=>by
  rw [ZaE.l0.succ];simp only [ZaE.l0.step]
  rw [ZaR (by omega),List.drop_eq_nil_of_le (by omega)];rfl
 | j+1,i,es,h,hz=>by
  have hi:i<more.length:=by omega
  have h6:=(ZaK hz).2
  rw [ZaE.l0.succ];simp only [ZaE.l0.step]
  rw [ZaQ hi,cond_true,Zab _ Zau,Int.toNat_natCast,Zd8 more i hi,ZpO es (by omega) _ (hm _ (List.getElem_mem hi)),List.drop_eq_getElem_cons hi,ZdG]
  simp only [Zaa]
  by_cases hc:ZfT es more[i]=0
  ·rw [if_pos hc,if_pos hc,show (ZfT es more[i] != 0)=false by simp [hc],cond_false,Zaf (by omega) (by omega),show (i:Int)+1=((i+1:Nat):Int) by omega]
   exact ZiG a more hm hn j (i+1) _ (by omega) (Zem hz hc).1
  ·rw [if_neg hc,if_neg hc,show (ZfT es more[i] != 0)=true by simp [hc],cond_true,if_neg hc];rfl
theorem ZiH (a b:Str) (ha:a.length≤1048576) (hb:b.length≤1048576):ZaE a b=some (Zgi a b):=by
 unfold ZaE Zgi
 rw [Zd6 a ha,Zd6 b hb]
 simp only [Zaa]
 cases hzb:Za3 b with
 | none=>cases hza:Za3 a<;>rfl
 | some more=>
  cases hza:Za3 a with
  | none=>rfl
  | some es=>
   have hokb:=Zbv hzb
   have h6b:=(ZaK hokb).2
   have hok:=Zbv hza
   simp only [Zpk,Bool.not_true,cond_false,Zaa]
   have hl:=ZiG a more (Zfb hokb) (by omega) more.length 0 es (by omega) hok
   rw [show ((0:Nat):Int)=0 from rfl,List.drop_zero] at hl
   rw [ZaG,hl]
   simp only [Zaa]
   by_cases hc:(ZdG es more).1=0
   ·obtain ⟨hzz,_⟩:=Zib more es hok hc
    rw [if_pos hc,if_pos hc]
    dsimp only
    rw [Zis _ (by have:=(ZaK hzz).2;omega) (ZaK hzz).1]
    simp only [Zaa]
   ·rw [if_neg hc,if_neg hc]
end Ev
end
section
namespace Ev
open Go
def Zja (es:List Fil) (n:Str):Str×Bool:=match atM es n with
 | none=>([],false)
 | some i=>((es.getD i Fil.z).txt,true)
theorem Zn8 (es:List Fil) (n:Str) (hn:es.length≤1048576):∀(j i:Nat),i+j=es.length→
  Zbm.l0 (j+1) (n,(es.length:Int),(i:Int),es)=some (match atM (es.drop i) n with | none=>.inl () | some k=>.inr ((es.getD (i+k) Fil.z).txt,true))
 | 0,i,h=>by
  rw [Zbm.l0.succ];simp only [Zbm.l0.step]
  rw [ZaR (by omega),List.drop_eq_nil_of_le (by omega)];rfl
 | j+1,i,h=>by
  have hi:i<es.length:=by omega
  rw [Zbm.l0.succ];simp only [Zbm.l0.step]
  rw [ZaQ hi,cond_true,Zab _ Zau,Int.toNat_natCast,Zd8 es i hi,Zaf (by omega) (by omega),show (i:Int)+1=((i+1:Nat):Int) by omega,Zn8 es n hn j (i+1) (by omega)]
  unfold atM
  rw [List.drop_eq_getElem_cons hi,List.findIdx?_cons]
  cases es[i].1==n with
  | true=>
   simp only [cond_true,if_true,Nat.add_zero]
   rw [show es.getD i Fil.z=es[i] from Zal hi];rfl
  | false=>
   simp only [cond_false,Bool.false_eq_true,if_false]
   cases (es.drop (i+1)).findIdx? (fun e=>e.1==n) with
   | none=>rfl
   | some k=>simp only [Option.map_some];rw [show i+1+k=i+(k+1) by omega]
theorem Zn7 {s:Str} {es:List Fil} (hs:s.length≤1048576) (h:Za3 s=some es) (n:Str):Zbm s n=some (Zja es n):=by
 have h6:=(ZaK (Zbv h)).2
 have hl:=Zn8 es n (by omega) es.length 0 (by omega)
 rw [show ((0:Nat):Int)=0 from rfl,List.drop_zero] at hl
 unfold Zbm Zja
 rw [Zeg s hs,h]
 simp only [Zpk,Zaa]
 rw [ZaG,hl]
 cases atM es n with
 | none=>rfl
 | some k=>simp only [Zaa,Nat.zero_add]
theorem ZgP {s:Str} {es:List Fil} (hs:s.length≤1048576) (h:Za3 s=some es):ZaA s=some (true,es):=by
 rw [Zeg s hs,h];rfl
theorem ZhI {es:List Fil} (h:ZdD es=true) (n:Str):Zbm (Zd0 es) n=some (Zja es n):=Zn7 (Ze9 h) (Zc3 es h) n
theorem ZrV {es:List Fil} (h:ZdD es=true) {i:Nat} (hi:i<es.length):Zja es es[i].1=(es[i].txt,true):=by
 unfold Zja
 rw [Zxs h hi]
 dsimp only
 rw [show es.getD i Fil.z=es[i] from Zal hi]
theorem Zys {es:List Fil} (h:ZdD es=true) {i:Nat} (hi:i<es.length) {n:Str} (hn:es[i].1=n):Zja es n=(es[i].txt,true):=by subst hn;exact ZrV h hi
theorem ZrX {es:List Fil} (h:ZdD es=true) {e:Fil} (he:e∈es):Zja es e.1=(e.txt,true):=by
 obtain ⟨i,hi,rfl⟩:=List.getElem_of_mem he
 exact ZrV h hi
theorem Zxt {es:List Fil} {n:Str} (h:∀e∈es,e.1≠n):atM es n=none:=by
 cases ha:atM es n with
 | none=>rfl
 | some k=>
  obtain ⟨hk,e⟩:=ZeO ha
  exact absurd e (h _ (List.getElem_mem hk))
theorem ZrW {es:List Fil} {n:Str} (h:∀e∈es,e.1≠n):Zja es n=([],false):=by unfold Zja;rw [Zxt h]
theorem Zxu {es:List Fil} (h:ZdD es=true) {i:Nat} (hi:i<es.length) {n:Str} (hn:es[i].1=n):atM es n=some i:=by subst hn;exact Zxs h hi
theorem Zqh {es:List Fil} {e:Fil} (h:ZdD (es++[e])=true):ZfT es e=0:=by
 obtain ⟨g1,g2,g3⟩:=(Zc2 _).1 h
 unfold ZfT
 rw [g1 e (by simp),if_neg (by simp)]
 have hc:Zek es e.1=false:=by
  rw [List.map_append] at g3
  have g4:=(List.pairwise_append.1 g3).2.2
  unfold Zek
  rw [List.any_eq_false]
  intro x hx
  have:=g4 x.1 (List.mem_map.2 ⟨x,hx,rfl⟩) e.1 (by simp)
  simp [this]
 rw [hc,if_neg (by simp),if_neg]
 rw [List.length_append] at g2;simp at g2;omega
theorem Zl5 {es fs:List Fil} (h:ZdD es=true) (p:es.Perm fs):ZdD fs=true:=by
 obtain ⟨g1,g2,g3⟩:=(Zc2 es).1 h
 rw [Zc2]
 refine ⟨fun e he=>g1 e (p.mem_iff.2 he),by rw [←p.length_eq];exact g2,?_⟩
 unfold Zss at g3 ⊢
 exact (List.Perm.pairwise_iff (fun {a b} q=>by rw [ZpX];exact q) (p.map _)).1 g3
theorem Zpl {es fs:List Fil} (h:ZdD es=true) (p:es.Perm fs):(Zd0 es).length=(Zd0 fs).length:=by
 rw [ZiV es (ZaK h).1,ZiV fs (ZaK (Zl5 h p)).1,←ZvO,←ZvO,(p.map _).sum_nat]
theorem Zso:∀(fs es:List Fil),ZdD (es++fs)=true→ZdG es fs=(0,es++fs)
 | [],es,h=>by rw [ZdG,List.append_nil]
 | e::r,es,h=>by
  have e2:es++e::r=es++[e]++r:=by simp
  have h1:ZdD (es++[e])=true:=Zjk h (by rw [e2];exact List.sublist_append_left ..)
  rw [e2] at h ⊢
  rw [ZdG,if_pos (Zqh h1),Zso r (es++[e]) h]
theorem Zxj {es:List Fil} {e:Fil} (he:e∈es):Zek es e.1=true:=by
 unfold Zek
 rw [List.any_eq_true]
 exact ⟨e,he,ZlV _⟩
theorem Zvw {es:List Fil} {e:Fil} (hf:Zcb e=true) (he:e∈es):ZfT es e=3:=by
 unfold ZfT
 rw [hf,if_neg (by simp),if_pos (Zxj he)]
theorem ZuD {es:List Fil} (h:ZdD es=true):es.Pairwise fun a b=>a.1≠b.1:=by
 have:=((Zc2 es).1 h).2.2
 unfold Zss at this
 rw [List.pairwise_map] at this
 exact this.imp fun {a b} q r=>by rw [r,ZlV] at q;cases q
theorem Zls {es:List Fil} (h:ZdD es=true) {i:Nat} (hi:i<es.length):Zdf es i=es.filter fun e=>!(e.1==es[i].1):=by
 have hu:=ZuD h
 have hs:es=es.take i++es[i]::es.drop (i+1):=by rw [←List.drop_eq_getElem_cons hi,List.take_append_drop]
 unfold Zdf
 rw [List.pairwise_iff_getElem] at hu
 obtain ⟨n,hn⟩:∃n,n=es[i].1:=⟨_,rfl⟩
 rw [←hn]
 conv=>rhs;rw [hs]
 rw [List.filter_append,List.filter_cons,←hn,beq_self_eq_true,Bool.not_true,if_neg (by simp),hn]
 congr 1
 ·refine (List.filter_eq_self.2 fun e he=>?_).symm
  obtain ⟨k,hk,rfl⟩:=List.mem_take_iff_getElem.1 he
  have:=hu k i (by omega) hi (by omega)
  simpa using this
 ·refine (List.filter_eq_self.2 fun e he=>?_).symm
  obtain ⟨k,hk,rfl⟩:=List.mem_drop_iff_getElem.1 he
  have:=hu i (i+1+k) hi (by omega) (by omega)
  have:=this.symm
  simpa using this
theorem Zvq {es:List Fil} (h:ZdD es=true) {i:Nat} (hi:i<es.length):∀e∈Zdf es i,e.1≠es[i].1:=by
 rw [Zls h hi]
 intro e he
 have:=(List.mem_filter.1 he).2
 simpa using this
theorem ZyM {es:List Fil} {e:Fil} (h:ZdD (es++[e])=true):atM (es++[e]) e.1=some es.length∧Zdf (es++[e]) es.length=es:=by
 refine ⟨Zxu h (i:=es.length) (by simp) (by simp),?_⟩
 unfold Zdf
 rw [List.take_left' rfl,List.drop_eq_nil_of_le (by simp),List.append_nil]
theorem Zgw (xs:List Int) (h:Zg9 xs) (hl:xs.length≤1048576):∃(s:Str) (e:Fil),Zbe xs=some (s,e.1,e.2.1,e.2.2.1,e.2.2.2.1,e.2.2.2.2.1,e.2.2.2.2.2.1,e.2.2.2.2.2.2.1,e.2.2.2.2.2.2.2)∧s.length≤4000∧Ztj e:=by
 have:Ret (Zbe xs) fun r=>∃(s:Str) (e:Fil),r=(s,e.1,e.2.1,e.2.2.1,e.2.2.2.1,e.2.2.2.2.1,e.2.2.2.2.2.1,e.2.2.2.2.2.2.1,e.2.2.2.2.2.2.2)∧s.length≤4000∧Ztj e:=by
  unfold Zbe
  refine .bind (ZlQ xs h hl) ?_
  rintro ⟨b,p⟩ ⟨rfl,hr⟩
  dsimp only at hr ⊢
  refine .bind (ZjF hr (by omega)) ?_
  rintro ⟨s,b1,p1⟩ ⟨rfl,g1,g2,es,g3,g4⟩
  dsimp only at g1 g2 g4 ⊢
  subst g4
  have:=Zka es g3
  refine .bind (ZjG (Zd0 es) (by omega) (hr.up g1) (by omega)) ?_
  rintro ⟨t,b2,p2⟩ ⟨rfl,k1,k2,k3⟩
  dsimp only at k1 k2 k3 ⊢
  refine .bind (ZpT ((hr.up g1).up k1) (by omega)) ?_
  rintro _ ⟨e,p3,rfl,l1,l2,l3⟩
  exact .pure ⟨t,e,rfl,by omega,l3⟩
 obtain ⟨r,hr,s,e,rfl,q⟩:=this
 exact ⟨s,e,hr,q⟩
theorem Zqc (xs:List Int) (h:Zg9 xs) (hl:xs.length≤1048576):Ret (Zce xs) fun r=>r.1.length≤4000∧r.2.length≤7:=by
 unfold Zce
 refine .bind (ZlQ xs h hl) ?_
 rintro ⟨b,p⟩ ⟨rfl,hr⟩
 dsimp only at hr ⊢
 refine .bind (ZjF hr (by omega)) ?_
 rintro ⟨s,b1,p1⟩ ⟨rfl,g1,g2,es,g3,g4⟩
 dsimp only at g1 g2 g4 ⊢
 subst g4
 have:=Zka es g3
 refine .bind (ZjG (Zd0 es) (by omega) (hr.up g1) (by omega)) ?_
 rintro ⟨t,b2,p2⟩ ⟨rfl,k1,k2,k3⟩
 dsimp only at k1 k2 k3 ⊢
 refine .bind (ZmV ((hr.up g1).up k1) (by omega)) ?_
 rintro ⟨n,b3,p3⟩ ⟨rfl,l1,l2,l3⟩
 dsimp only at l3 ⊢
 exact .pure ⟨by dsimp only;omega,l3.1⟩
theorem Zqb (xs:List Int) (h:Zg9 xs) (hl:xs.length≤1048576):Ret (Zcd xs) fun r=>r.1.length≤4000∧r.2.1.length≤7∧r.2.2.length≤11:=by
 unfold Zcd
 refine .bind (ZlQ xs h hl) ?_
 rintro ⟨b,p⟩ ⟨rfl,hr⟩
 dsimp only at hr ⊢
 refine .bind (ZjF hr (by omega)) ?_
 rintro ⟨s,b1,p1⟩ ⟨rfl,g1,g2,es,g3,g4⟩
 dsimp only at g1 g2 g4 ⊢
 subst g4
 have:=Zka es g3
 refine .bind (ZjG (Zd0 es) (by omega) (hr.up g1) (by omega)) ?_
 rintro ⟨t,b2,p2⟩ ⟨rfl,k1,k2,k3⟩
 dsimp only at k1 k2 k3 ⊢
 refine .bind (ZmV ((hr.up g1).up k1) (by omega)) ?_
 rintro ⟨n,b3,p3⟩ ⟨rfl,l1,l2,l3⟩
 dsimp only at l1 l2 l3 ⊢
 refine .bind (ZrA (((hr.up g1).up k1).up l1) (by omega)) ?_
 rintro ⟨m,b4,p4⟩ ⟨rfl,m1,m2,m3⟩
 dsimp only at m3 ⊢
 exact .pure ⟨by dsimp only;omega,l3.1,m3⟩
theorem ZjV (xs:List Int) (h:Zg9 xs) (hl:xs.length≤1048576):Ret (Zbt xs) fun r=>(∃es,ZdD es=true∧r.1=Zd0 es)∧r.2.length≤4000:=by
 unfold Zbt
 refine .bind (ZlQ xs h hl) ?_
 rintro ⟨b,p⟩ ⟨rfl,hr⟩
 dsimp only at hr ⊢
 refine .bind (ZjF hr (by omega)) ?_
 rintro ⟨s,b1,p1⟩ ⟨rfl,g1,g2,es,g3,g4⟩
 dsimp only at g1 g2 g4 ⊢
 refine .bind (ZjF (hr.up g1) (by omega)) ?_
 rintro ⟨s2,b2,p2⟩ ⟨rfl,k1,k2,fs,k3,k4⟩
 dsimp only at k1 k2 k4 ⊢
 subst k4
 have:=Zka fs k3
 refine .bind (ZjG (Zd0 fs) (by omega) ((hr.up g1).up k1) (by omega)) ?_
 rintro ⟨t,b3,p3⟩ ⟨rfl,l1,l2,l3⟩
 dsimp only at l3 ⊢
 exact .pure ⟨⟨es,g3,g4⟩,by dsimp only;omega⟩
end Ev
end
section
namespace Ev
open Go
theorem Zlk:((1:Int) != 0)=true:=rfl
theorem ZvL:((2:Int) != 0)=true:=rfl
theorem ZxI:((3:Int) != 0)=true:=rfl
theorem Zpp:((0:Int)==0)=true:=rfl
theorem Zik {s:Str} {es:List Fil} (h:Za3 s=some es) (e:Fil):Zha s e=if ZfT es e=0 then (Zd0 (es++[e]),0) else (s,ZfT es e):=by unfold Zha;rw [h]
theorem Zk4 {s:Str} (h:Za3 s=none) (e:Fil):Zha s e=([],1):=by unfold Zha;rw [h]
theorem Zqm (xs:List Int) (h:Zg9 xs):FnZipAdd xs=some true:=by
 unfold FnZipAdd
 by_cases c:xs.length>1048576
 ·rw [decide_eq_true (by omega)];rfl
 rw [decide_eq_false (by omega),cond_false]
 obtain ⟨s,e,hd,hs,he⟩:=Zgw xs h (by omega)
 have hel:=Ztw he
 rw [hd]
 simp only [Zaa]
 rw [ZhJ s (by omega) e hel,Zjp s (by omega) e hel]
 cases hz:Za3 s with
 | none=>
  rw [Zk4 hz]
  simp only [Zaa,beq_self_eq_true,Bool.not_true,bne_self_eq_false,cond_false,Zlk,cond_true]
  cases (([]:Str)==s)<;>rfl
 | some es=>
  have hok:=Zbv hz
  have h6:=(ZaK hok).2
  rw [Zik hz]
  by_cases hc:ZfT es e=0
  ·obtain ⟨hzz,hf,_,_⟩:=Zem hok hc
   obtain ⟨a1,a2⟩:=ZyM hzz
   have hD:Ztd (es++[e]) e.1=(Zd0 es,0):=by rw [Zyy a1,a2]
   have hT:ZfT (es++[e]) e=3:=Zvw hf (by simp)
   have hA:=Zjl hzz e hel
   rw [hT,if_neg (by decide)] at hA
   have hl:(es++[e]).length=es.length+1:=by simp
   have hg:(es++[e]).getD es.length ([],0,0,0,0,0,0,[])=e:=by simp [List.getD_eq_getElem?_getD]
   rw [if_pos hc]
   simp only [Zaa,beq_self_eq_true,Bool.not_true,bne_self_eq_false,cond_false]
   rw [ZgP (by omega) hz]
   simp only [Zaa]
   rw [Zij hzz]
   simp only [Zaa]
   rw [Zqu hzz,hD]
   simp only [Zaa]
   rw [hA]
   simp only [Zaa,cond_true]
   rw [Zaf (by omega) (by omega),hl,show (((es.length+1:Nat):Int)==(es.length:Int)+1)=true by simp,cond_true,Zab _ (by simp;omega),Int.toNat_natCast,List.drop_zero,List.take_left' rfl,Znu es (by omega)]
   simp only [Zaa,cond_true]
   rw [Zab _ (by simp;omega),hg]
   simp only [beq_self_eq_true,Bool.and_self,cond_true]
   rw [ZlE hok]
   simp only [Zaa,beq_self_eq_true,cond_true,Zpp]
   try rfl
  ·have hne:(ZfT es e != 0)=true:=by simp [hc]
   rw [if_neg hc]
   simp only [Zaa,beq_self_eq_true,Bool.not_true,bne_self_eq_false,cond_false,hne,cond_true]
   try rfl
theorem Zsw {s:Str} {es:List Fil} (h:Za3 s=some es) (n t:Str):ZfD s n t=if ZcG t=false then (s,(1:Int)) else match atM es n with
  | none=>(s,2)
  | some i=>if Zek (Zdf es i) t=true then (s,3) else (Zd0 (ZgU es i t),0):=by unfold ZfD;rw [h]<;>rfl
theorem Zpn {s:Str} (h:Za3 s=none) (n t:Str):ZfD s n t=([],1):=by unfold ZfD;rw [h]
theorem ZtC {es:List Fil} {i k:Nat} {t:Str} (hk:k<es.length):(ZgU es i t)[k]'(by unfold ZgU;rw [List.length_set];exact hk)=if i=k then (t,(es.getD i Fil.z).2) else es[k]:=by
 unfold ZgU
 rw [List.getElem_set]
theorem moved {es:List Fil} (h:ZdD es=true) {i:Nat} (hi:i<es.length) {t:Str} (ht:ZcG t=true) (hc:Zek (Zdf es i) t=false) :
  Zja (ZgU es i t) t=(es[i].txt,true)∧Zwl (ZgU es i t) t es[i].1=(Zd0 es,0)∧(Zja (ZgU es i t) es[i].1).2=(es[i].1==t):=by
 have hz:=ZlG h hi ht hc
 have hl:(ZgU es i t).length=es.length:=by unfold ZgU;rw [List.length_set]
 have hgi:(ZgU es i t)[i]'(by omega)=(t,es[i].2):=by rw [ZtC hi,if_pos rfl,Zal hi]
 have h1:atM (ZgU es i t) t=some i:=Zxu hz (i:=i) (by omega) (by rw [hgi])
 have hdrop:Zdf (ZgU es i t) i=Zdf es i:=by
  unfold Zdf ZgU
  rw [List.take_set,List.drop_set_of_lt (by omega),List.set_eq_of_length_le (List.length_take_le _ _)]
 have hback:ZgU (ZgU es i t) i es[i].1=es:=by
  unfold ZgU
  rw [List.set_set]
  have:((es.set i (t,(es.getD i Fil.z).2)).getD i Fil.z).2=es[i].2:=by
   rw [Zal (by rw [List.length_set];exact hi),List.getElem_set_self,Zal hi]
  rw [this]
  exact List.set_getElem_self hi
 refine ⟨?_,?_,?_⟩
 ·unfold Zja
  rw [h1]
  dsimp only
  rw [show (ZgU es i t).getD i Fil.z=(ZgU es i t)[i]'(by omega) from Zal (by omega),hgi]
 ·rw [Zx7 (ZbW ((ZaK h).1 es[i] (List.getElem_mem hi))).1 h1,hdrop,if_neg (by rw [Zns h hi];simp),hback]
 ·by_cases e:es[i].1=t
  ·rw [e,beq_self_eq_true]
   unfold Zja
   rw [h1]
  ·rw [beq_false_of_ne e,ZrW]
   intro x hx
   obtain ⟨k,hk,rfl⟩:=List.getElem_of_mem hx
   rw [hl] at hk
   rw [ZtC hk]
   split
   ·exact fun q=>e q.symm
   ·rename_i hik
    intro q
    exact hik (Zl6 h hk hi q).symm
theorem Zn2 (xs:List Int) (h:Zg9 xs):FnZipMove xs=some true:=by
 unfold FnZipMove
 by_cases c:xs.length>1048576
 ·rw [decide_eq_true (by omega)];rfl
 rw [decide_eq_false (by omega),cond_false]
 obtain ⟨⟨s,n,t⟩,hd,hs,hn,ht⟩:=Zqb xs h (by omega)
 dsimp only at hs hn ht
 rw [hd]
 simp only [Zaa]
 rw [Zn6 s n t (by omega) (by omega),ZnM s n t (by omega) (by omega)]
 cases hz:Za3 s with
 | none=>
  rw [Zpn hz]
  simp only [Zaa,beq_self_eq_true,Bool.not_true,bne_self_eq_false,cond_false,Zlk,cond_true]
  cases (([]:Str)==s)<;>rfl
 | some es=>
  have hok:=Zbv hz
  have h6:=(ZaK hok).2
  rw [Zsw hz]
  cases hnm:ZcG t with
  | false=>
   rw [if_pos rfl]
   simp only [Zaa,beq_self_eq_true,Bool.not_true,bne_self_eq_false,cond_false,Zlk,cond_true]
   try rfl
  | true=>
   rw [if_neg (by simp)]
   cases ha:atM es n with
   | none=>
    dsimp only
    simp only [Zaa,beq_self_eq_true,Bool.not_true,bne_self_eq_false,cond_false,ZvL,cond_true]
    try rfl
   | some i=>
    obtain ⟨hi,hni⟩:=ZeO ha
    dsimp only
    cases hcl:Zek (Zdf es i) t with
    | true=>
     rw [if_pos rfl]
     simp only [Zaa,beq_self_eq_true,Bool.not_true,bne_self_eq_false,cond_false,ZxI,cond_true]
     try rfl
    | false=>
     rw [if_neg (by simp)]
     have hzz:=ZlG hok hi hnm hcl
     obtain ⟨m1,m2,m3⟩:=moved hok hi hnm hcl
     have hl:(ZgU es i t).length=es.length:=by unfold ZgU;rw [List.length_set]
     rw [hni] at m2 m3
     have hf1:Zja es n=(es[i].txt,true):=Zys hok hi hni
     simp only [Zaa,beq_self_eq_true,Bool.not_true,bne_self_eq_false,cond_false]
     rw [ZgP (by omega) hz]
     simp only [Zaa]
     rw [Zn7 (by omega) hz,hf1]
     simp only [Zaa]
     rw [ZhI hzz,m1]
     simp only [Zaa]
     rw [ZvG hzz t n (by omega),m2]
     simp only [Zaa]
     rw [ZhI hzz]
     generalize hq:Zja (ZgU es i t) n=q at m3
     obtain ⟨q1,q2⟩:=q
     dsimp only at m3
     subst m3
     simp only [Zaa,cond_true,beq_self_eq_true,Zpp]
     rw [ZlE hok]
     simp only [Zaa,cond_true,beq_self_eq_true]
     rw [ZuB hzz]
     simp only [Zaa,cond_true,beq_self_eq_true,List.length_map,hl]
theorem Zii {es:List Fil} (h:ZdD es=true) (b:Str):Zgi (Zd0 es) b=match Za3 b with
 | none=>([],1)
 | some more=>if (ZdG es more).1=0 then (Zd0 (ZdG es more).2,0) else (Zd0 es,(ZdG es more).1):=by
 unfold Zgi
 cases Za3 b with
 | none=>rfl
 | some more=>dsimp only;rw [Zc3 es h]
theorem Zn3 (xs:List Int) (h:Zg9 xs):FnZipJoin xs=some true:=by
 unfold FnZipJoin
 by_cases c:xs.length>1048576
 ·rw [decide_eq_true (by omega)];rfl
 rw [decide_eq_false (by omega),cond_false]
 obtain ⟨⟨a,b⟩,hd,⟨es,hze,ha⟩,hb⟩:=ZjV xs h (by omega)
 dsimp only at ha hb
 subst ha
 have hla:=Ze9 hze
 rw [hd]
 simp only [Zaa]
 rw [Zih _ b hla (by omega),ZiH _ b hla (by omega),Zii hze]
 cases hz:Za3 b with
 | none=>
  dsimp only
  simp only [Zaa,beq_self_eq_true,Bool.not_true,bne_self_eq_false,cond_false,Zlk,cond_true]
  cases (([]:Str)==Zd0 es)<;>rfl
 | some more=>
  have hokb:=Zbv hz
  have h6b:=(ZaK hokb).2
  have h6:=(ZaK hze).2
  dsimp only
  by_cases hc:(ZdG es more).1=0
  ·obtain ⟨hzz,hcat⟩:=Zib more es hze hc
   rw [hcat] at hzz
   rw [if_pos hc,hcat]
   have hlx:=Ze9 hzz
   have hln:=Ze9 ZlH
   have e1:Zgi (Zd0 []) (Zd0 (es++more))=(Zd0 (es++more),0):=by
    rw [Zii ZlH,Zc3 _ hzz]
    dsimp only
    rw [Zso (es++more) [] hzz];rfl
   have e2:Zgi (Zd0 (es++more)) (Zd0 [])=(Zd0 (es++more),0):=by
    rw [Zii hzz,Zc3 _ ZlH]
    dsimp only
    rw [ZdG];rfl
   simp only [Zaa,beq_self_eq_true,Bool.not_true,bne_self_eq_false,cond_false]
   rw [Zij hze]
   simp only [Zaa]
   rw [ZgP (by omega) hz]
   simp only [Zaa]
   rw [Zij hzz]
   simp only [Zaa]
   rw [ZlE ZlH]
   simp only [Zaa]
   rw [Zih _ _ hln hlx,e1]
   simp only [Zaa]
   rw [Zih _ _ hlx hln,e2]
   simp only [Zaa,cond_true,beq_self_eq_true,Zpp]
   rw [Zad (by simp;omega),Zad (by simp;omega),List.nil_append,Znu _ (by simp;omega)]
   simp only [Zaa,cond_true]
   try rfl
  ·have hne:((ZdG es more).1 != 0)=true:=by simp [hc]
   rw [if_neg hc]
   simp only [Zaa,beq_self_eq_true,Bool.not_true,bne_self_eq_false,cond_false,hne,cond_true]
   try rfl
theorem Zmf (es:List Fil) (e f:Fil):(es++[e]++[f]).Perm (es++[f]++[e]):=by
 rw [List.append_assoc,List.append_assoc]
 exact List.Perm.append_left es (List.Perm.swap f e [])
theorem ZnH (xs:List Int) (h:Zg9 xs) (ys:List Int) (h':Zg9 ys):FnZipTwice xs ys=some true:=by
 unfold FnZipTwice
 by_cases c:xs.length>1048576
 ·rw [decide_eq_true (by omega)];rfl
 by_cases c':ys.length>1048576
 ·rw [decide_eq_false (by omega),cond_false,decide_eq_true (by omega)];rfl
 rw [decide_eq_false (by omega),cond_false,decide_eq_false (by omega)]
 obtain ⟨s,e,hd,hs,he⟩:=Zgw xs h (by omega)
 obtain ⟨s2,f,hd2,_,hf⟩:=Zgw ys h' (by omega)
 have hel:=Ztw he
 have hfl:=Ztw hf
 simp only [Zaa,cond_false]
 rw [hd]
 simp only [Zaa]
 rw [hd2]
 simp only [Zaa]
 rw [ZhJ s (by omega) e hel,Zjp s (by omega) e hel]
 cases hz:Za3 s with
 | none=>
  rw [Zk4 hz]
  simp only [Zaa,beq_self_eq_true,Bool.not_true,bne_self_eq_false,cond_false,Zlk,cond_true]
  try rfl
 | some es=>
  have hok:=Zbv hz
  have h6:=(ZaK hok).2
  rw [Zik hz]
  by_cases hc:ZfT es e=0
  ·obtain ⟨hzz,hfe,_,_⟩:=Zem hok hc
   rw [if_pos hc]
   simp only [Zaa,beq_self_eq_true,Bool.not_true,bne_self_eq_false,cond_false]
   rw [Zjl hzz f hfl,ZhJ s (by omega) f hfl,Zik hz]
   by_cases h2:ZfT (es++[e]) f=0
   ·have hzf:=(Zem hzz h2).1
    have hzg:ZdD (es++[f]++[e])=true:=Zl5 hzf (Zmf es e f)
    have hzs:ZdD (es++[f])=true:=Zjk hzg (List.sublist_append_left ..)
    have h3:ZfT es f=0:=Zqh hzs
    have h4:ZfT (es++[f]) e=0:=Zqh hzg
    rw [if_pos h2,if_pos h3]
    simp only [Zaa]
    rw [Zjl hzs e hel,if_pos h4]
    simp only [Zaa,bne_self_eq_false,cond_false]
    rw [ZhI hzg,ZrX hzg (e:=e) (by simp)]
    simp only [Zaa]
    rw [ZhI hzf,ZrX hzf (e:=e) (by simp)]
    simp only [Zaa,Zpp,cond_true,beq_self_eq_true]
    rw [Zpl hzf (Zmf es e f),beq_self_eq_true]
    try rfl
   ·rw [if_neg h2]
    have hne:(ZfT (es++[e]) f != 0)=true:=by simp [h2]
    by_cases h3:ZfT es f=0
    ·have hzs:=(Zem hok h3).1
     have h4:ZfT (es++[f]) e≠0:=fun q=>by
      have hzg:=(Zem hzs q).1
      exact h2 (Zqh (Zl5 hzg (Zmf es f e)))
     have hne4:(ZfT (es++[f]) e != 0)=true:=by simp [h4]
     rw [if_pos h3]
     simp only [Zaa]
     rw [Zjl hzs e hel,if_neg h4]
     simp only [Zaa,hne,hne4,bne_self_eq_false,cond_true,cond_false]
    ·have hne3:(ZfT es f != 0)=true:=by simp [h3]
     rw [if_neg h3]
     simp only [Zaa]
     rw [ZhJ s (by omega) e hel,Zik hz,if_pos hc]
     simp only [Zaa,hne,hne3,bne_self_eq_false,cond_true,cond_false]
  ·have hne:(ZfT es e != 0)=true:=by simp [hc]
   rw [if_neg hc]
   simp only [Zaa,beq_self_eq_true,Bool.not_true,bne_self_eq_false,cond_false,hne,cond_true]
   try rfl
end Ev
end
section
namespace Ev
open Go
theorem Zsx {s:Str} {es:List Fil} (h:Za3 s=some es) (n:Str):ZfE s n=match atM es n with
 | none=>(s,(2:Int))
 | some i=>(Zd0 (Zdf es i),0):=by unfold ZfE;rw [h]<;>rfl
theorem Zpo {s:Str} (h:Za3 s=none) (n:Str):ZfE s n=([],1):=by unfold ZfE;rw [h]
def Zox (es:List Fil) (n:Str):List Fil:=es.filter fun e=>!(e.1==n)
theorem Zif (n:Str) (x:Str) (was list:List Fil) (hn:was.length≤1000):∀(j i m:Nat),i+j=was.length→m≤i→Zox (was.drop i) n=list.drop m→m≤list.length→
  FnZipDrop.l0 (j+1) (n,x,true,(m:Int),(i:Int),was,list)=some (.inl (n,x,true,(list.length:Int),list))
 | 0,i,m,h,hm,he,hl=>by
  rw [FnZipDrop.l0.succ];simp only [FnZipDrop.l0.step]
  rw [ZaR (by omega)]
  rw [List.drop_eq_nil_of_le (by omega:was.length≤i)] at he
  have:list.length≤m:=List.drop_eq_nil_iff.1 he.symm
  rw [show m=list.length by omega];rfl
 | j+1,i,m,h,hm,he,hl=>by
  have hi:i<was.length:=by omega
  rw [FnZipDrop.l0.succ];simp only [FnZipDrop.l0.step]
  rw [ZaQ hi,cond_true,Zab _ Zau,Int.toNat_natCast,Zd8 was i hi,Zaf (n:=(i:Int)+1) (by omega) (by omega),show (i:Int)+1=((i+1:Nat):Int) by omega]
  have hd:Zox (was.drop i) n=if (was[i].1==n)=true then Zox (was.drop (i+1)) n else was[i]::Zox (was.drop (i+1)) n:=by
   unfold Zox
   rw [List.drop_eq_getElem_cons hi,List.filter_cons]
   cases was[i].1==n<;>rfl
  rw [hd] at he
  cases hc:was[i].1==n with
  | true=>
   rw [hc,if_pos rfl] at he
   rw [Bool.not_true,cond_false]
   exact Zif n x was list hn j (i+1) m (by omega) (by omega) he hl
  | false=>
   rw [hc,if_neg (by simp)] at he
   have hml:m<list.length:=by
    rcases Nat.lt_or_ge m list.length with q | q
    ·exact q
    ·rw [List.drop_eq_nil_of_le q] at he;cases he
   rw [List.drop_eq_getElem_cons hml] at he
   injection he with he1 he2
   rw [Bool.not_false,cond_true,decide_eq_false (by omega),cond_false,Zab _ (by simp;omega),Zab _ Zau,Int.toNat_natCast,Zd8 list m hml,←he1]
   simp only [beq_self_eq_true,Bool.and_self,Bool.not_true,Zaa,cond_false]
   rw [Zaf (by omega) (by omega),show (m:Int)+1=((m+1:Nat):Int) by omega]
   exact Zif n x was list hn j (i+1) (m+1) (by omega) (by omega) he2 (by omega)
theorem Zn4 (xs:List Int) (h:Zg9 xs):FnZipDrop xs=some true:=by
 unfold FnZipDrop
 by_cases c:xs.length>1048576
 ·rw [decide_eq_true (by omega)];rfl
 rw [decide_eq_false (by omega),cond_false]
 obtain ⟨⟨s,n⟩,hd,hs,hn⟩:=Zqc xs h (by omega)
 dsimp only at hs hn
 have hd':Zcf xs=some (s,n):=by unfold Zcf;rw [hd];rfl
 rw [hd']
 simp only [Zaa]
 rw [Zn9 s n (by omega),ZnN s n (by omega)]
 cases hz:Za3 s with
 | none=>
  rw [Zpo hz]
  simp only [Zaa,beq_self_eq_true,Bool.not_true,bne_self_eq_false,cond_false,Zlk,cond_true]
  cases (([]:Str)==s)<;>rfl
 | some es=>
  have hok:=Zbv hz
  have h6:=(ZaK hok).2
  rw [Zsx hz]
  cases ha:atM es n with
  | none=>
   dsimp only
   simp only [Zaa,beq_self_eq_true,Bool.not_true,bne_self_eq_false,cond_false,ZvL,cond_true]
   try rfl
  | some i=>
   obtain ⟨hi,hni⟩:=ZeO ha
   have hzz:=Zjk hok (Zh3 es i)
   have ho:Zdf es i=Zox es n:=by rw [Zls hok hi,hni];rfl
   have hout:∀e∈Zdf es i,e.1≠n:=by rw [←hni];exact Zvq hok hi
   have hl:=Zif n (Zd0 (Zdf es i)) es (Zdf es i) (by omega) es.length 0 0 (by omega) (by omega) (by rw [List.drop_zero,List.drop_zero,ho]) (by omega)
   rw [show ((0:Nat):Int)=0 from rfl] at hl
   have hdr:Ztd (Zdf es i) n=(Zd0 (Zdf es i),2):=by unfold Ztd;rw [Zxt hout]
   dsimp only
   simp only [Zaa,beq_self_eq_true,Bool.not_true,bne_self_eq_false,cond_false]
   rw [ZgP (by omega) hz]
   simp only [Zaa]
   rw [Zij hzz]
   simp only [Zaa]
   rw [ZaG,hl]
   simp only [Zaa]
   rw [ZhI hzz,ZrW hout]
   simp only [Zaa]
   rw [Zqu hzz,hdr]
   simp only [Zaa,beq_self_eq_true,cond_true,Bool.not_false]
theorem Zl4 {s:Str} {es:List Fil} (h:Za3 s=some es) (e:Fil):ZfC s e=if Zcb e=false then (s,(1:Int)) else match atM es e.1 with
  | none=>(s,2)
  | some i=>(Zd0 (es.set i e),0):=by unfold ZfC;rw [h]<;>rfl
theorem Zpm {s:Str} (h:Za3 s=none) (e:Fil):ZfC s e=([],1):=by unfold ZfC;rw [h]
theorem ZlA (e:Fil) (es:List Fil) (hz:ZdD es=true) (i:Nat) (hi:i<es.length) (hni:es[i].1=e.1) (hf:Zcb e=true):∀(j k:Nat),k+j=es.length→
  FnZipSwap.l0 (j+1) (Zd0 (es.set i e),(k:Int),e.1,e.2.1,e.2.2.1,e.2.2.2.1,e.2.2.2.2.1,e.2.2.2.2.2.1,e.2.2.2.2.2.2.1,e.2.2.2.2.2.2.2,es,es.set i e)=some (.inl ())
 | 0,k,h=>by
  rw [FnZipSwap.l0.succ];simp only [FnZipSwap.l0.step]
  rw [ZaR (by omega)];rfl
 | j+1,k,h=>by
  have hk:k<es.length:=by omega
  have h6:=(ZaK hz).2
  have hzz:=ZlF hz hf hi hni
  have ih:=ZlA e es hz i hi hni hf j (k+1) (by omega)
  have hls:(es.set i e).length=es.length:=List.length_set
  rw [FnZipSwap.l0.succ];simp only [FnZipSwap.l0.step]
  rw [ZaQ hk,cond_true,Zab _ Zau,Int.toNat_natCast,Zd8 es k hk,Zd8 (es.set i e) k (by omega),Zaf (n:=(k:Int)+1) (by omega) (by omega),show (k:Int)+1=((k+1:Nat):Int) by omega]
  by_cases hik:k=i
  ·subst hik
   have hfw:=(ZaK hz).1 es[k] (List.getElem_mem hk)
   have hnl:=Zig hz es[k] (List.getElem_mem hk)
   have hsw:=Zn5 (Zd0 (es.set k e)) (Ze9 hzz) es[k] (by omega)
   have hM:ZfC (Zd0 (es.set k e)) es[k]=(Zd0 es,0):=by
    rw [Zl4 (Zc3 _ hzz),if_neg (by rw [hfw];simp),Zxu hzz (i:=k) (by omega) (by rw [List.getElem_set_self,hni])]
    dsimp only
    rw [List.set_set,List.set_getElem_self]
   rw [hM] at hsw
   rw [show (es[k].1==e.1)=true by rw [hni,beq_self_eq_true],cond_true,Zab _ Zau,hsw]
   simp only [Zaa]
   rw [Zab _ (by simp;omega),List.getElem_set_self]
   simp only [beq_self_eq_true,Bool.and_self,Bool.not_true,Zaa,cond_false,bne_self_eq_false]
   rw [ZlE hz]
   simp only [Zaa,beq_self_eq_true,Bool.not_true,cond_false]
   exact ih
  ·have hne:(es[k].1==e.1)=false:=beq_false_of_ne (fun q=>hik (Zl6 hz hk hi (q.trans hni.symm)))
   rw [hne,cond_false,Zab _ (by simp;omega),Zab _ Zau,List.getElem_set_ne (fun q=>hik q.symm)]
   simp only [beq_self_eq_true,Bool.and_self,Bool.not_true,cond_false]
   exact ih
theorem Zn1 (xs:List Int) (h:Zg9 xs):FnZipSwap xs=some true:=by
 unfold FnZipSwap
 by_cases c:xs.length>1048576
 ·rw [decide_eq_true (by omega)];rfl
 rw [decide_eq_false (by omega),cond_false]
 obtain ⟨s,e,hd,hs,he⟩:=Zgw xs h (by omega)
 have hel:=Ztw he
 have hd':Zcc xs=some (s,e.1,e.2.1,e.2.2.1,e.2.2.2.1,e.2.2.2.2.1,e.2.2.2.2.2.1,e.2.2.2.2.2.2.1,e.2.2.2.2.2.2.2):=by unfold Zcc;rw [hd];rfl
 rw [hd']
 simp only [Zaa]
 rw [Zn5 s (by omega) e hel,ZnL s (by omega) e hel]
 cases hz:Za3 s with
 | none=>
  rw [Zpm hz]
  simp only [Zaa,beq_self_eq_true,Bool.not_true,bne_self_eq_false,cond_false,Zlk,cond_true]
  cases (([]:Str)==s)<;>rfl
 | some es=>
  have hok:=Zbv hz
  have h6:=(ZaK hok).2
  rw [Zl4 hz]
  cases hf:Zcb e with
  | false=>
   rw [if_pos rfl]
   simp only [Zaa,beq_self_eq_true,Bool.not_true,bne_self_eq_false,cond_false,Zlk,cond_true]
   try rfl
  | true=>
   rw [if_neg (by simp)]
   cases ha:atM es e.1 with
   | none=>
    dsimp only
    simp only [Zaa,beq_self_eq_true,Bool.not_true,bne_self_eq_false,cond_false,ZvL,cond_true]
    try rfl
   | some i=>
    obtain ⟨hi,hni⟩:=ZeO ha
    have hzz:=ZlF hok hf hi hni
    have hl:=ZlA e es hok i hi hni hf es.length 0 (by omega)
    rw [show ((0:Nat):Int)=0 from rfl] at hl
    dsimp only
    simp only [Zaa,beq_self_eq_true,Bool.not_true,bne_self_eq_false,cond_false]
    rw [ZgP (by omega) hz]
    simp only [Zaa]
    rw [Zij hzz]
    simp only [Zaa,List.length_set,Bool.not_true,cond_false,bne_self_eq_false]
    rw [ZaG,hl]
    rfl
theorem Zie (a x:Str) (k:Int) (es more:List Fil) (hm:ZdD more=true) (hk:(ZdG es more).1=k) (hx:x=if k=0 then Zd0 (es++more) else a):∀(j i:Nat),i+j=more.length→ZdD (es++more.take i)=true→ZdG (es++more.take i) (more.drop i)=ZdG es more→
  FnZipJoinOne.l0 (j+1) (a,x,k,Zd0 (es++more.take i),(i:Int),more)=some (if k=0 then .inl (x,k,x) else .inr true)
 | 0,i,h,hz,he=>by
  rw [FnZipJoinOne.l0.succ];simp only [FnZipJoinOne.l0.step]
  rw [ZaR (by omega),List.take_of_length_le (by omega)]
  rw [List.drop_eq_nil_of_le (by omega),ZdG] at he
  have h0:k=0:=by rw [←hk,←he]
  subst h0
  rw [if_pos rfl] at hx ⊢
  rw [hx];rfl
 | j+1,i,h,hz,he=>by
  have hi:i<more.length:=by omega
  have h6:=(ZaK hm).2
  have hnl:=Zig hm more[i] (List.getElem_mem hi)
  rw [FnZipJoinOne.l0.succ];simp only [FnZipJoinOne.l0.step]
  rw [ZaQ hi,cond_true,Zab _ Zau,Int.toNat_natCast,Zd8 more i hi,Zjl hz more[i] (by omega),Zaf (by omega) (by omega),show (i:Int)+1=((i+1:Nat):Int) by omega]
  rw [List.drop_eq_getElem_cons hi,ZdG] at he
  by_cases hc:ZfT (es++more.take i) more[i]=0
  ·rw [if_pos hc] at he ⊢
   have e1:es++more.take i++[more[i]]=es++more.take (i+1):=by rw [List.append_assoc,List.take_succ_eq_append_getElem hi]
   have hzz:=(Zem hz hc).1
   rw [e1] at he hzz ⊢
   simp only [Zaa,bne_self_eq_false,cond_false]
   exact Zie a x k es more hm hk hx j (i+1) (by omega) hzz he
  ·rw [if_neg hc] at he ⊢
   have hk':k=ZfT (es++more.take i) more[i]:=by rw [←hk,←he]
   have hne:(ZfT (es++more.take i) more[i] != 0)=true:=by simp [hc]
   have hk0:k≠0:=by rw [hk'];exact hc
   rw [if_neg hk0] at hx ⊢
   simp only [Zaa,hne,cond_true]
   rw [←hk',hx,beq_self_eq_true,beq_self_eq_true]
   rfl
theorem Zk3 (xs:List Int) (h:Zg9 xs):FnZipJoinOne xs=some true:=by
 unfold FnZipJoinOne
 by_cases c:xs.length>1048576
 ·rw [decide_eq_true (by omega)];rfl
 rw [decide_eq_false (by omega),cond_false]
 obtain ⟨⟨a,b⟩,hd,⟨es,hze,ha⟩,hb⟩:=ZjV xs h (by omega)
 dsimp only at ha hb
 subst ha
 have hla:=Ze9 hze
 rw [hd]
 simp only [Zaa]
 rw [Zih _ b hla (by omega),ZiH _ b hla (by omega),Zii hze]
 cases hz:Za3 b with
 | none=>
  dsimp only
  simp only [Zaa]
  rw [Zeg b (by omega),hz]
  simp only [Zpk,Zaa,beq_self_eq_true,Bool.not_true,Bool.not_false,bne_self_eq_false,cond_false,cond_true]
  try rfl
 | some more=>
  have hokb:=Zbv hz
  have h6b:=(ZaK hokb).2
  have h6:=(ZaK hze).2
  dsimp only
  generalize hx:(if (ZdG es more).1=0 then (Zd0 (ZdG es more).2,(0:Int)) else (Zd0 es,(ZdG es more).1))=r
  obtain ⟨x,k⟩:=r
  have hk:(ZdG es more).1=k:=by
   split at hx
   ·rename_i q;rw [q];exact congrArg Prod.snd hx
   ·exact congrArg Prod.snd hx
  have hx':x=if k=0 then Zd0 (es++more) else Zd0 es:=by
   subst hk
   split at hx
   ·rename_i q
    rw [if_pos q,←(Zib more es hze q).2]
    exact (congrArg Prod.fst hx).symm
   ·rename_i q
    rw [if_neg q]
    exact (congrArg Prod.fst hx).symm
  simp only [Zaa]
  rw [ZgP (by omega) hz]
  simp only [Zaa,beq_self_eq_true,Bool.not_true,bne_self_eq_false,cond_false]
  have hl:=Zie (Zd0 es) x k es more hokb hk hx' more.length 0 (by omega) (by rw [List.take_zero,List.append_nil];exact hze) (by rw [List.take_zero,List.append_nil,List.drop_zero])
  rw [show ((0:Nat):Int)=0 from rfl,List.take_zero,List.append_nil] at hl
  by_cases e1:more.length=0
  ·rw [show ((more.length:Int)==0)=true by simp [e1]]
   simp only [cond_true,Zaa,beq_self_eq_true]
  ·rw [show ((more.length:Int)==0)=false by simp;intro q;exact e1 (by rw [q];rfl)]
   simp only [cond_false,Zaa]
   cases hk1:k==1 with
   | true=>simp only [cond_true,Zaa,beq_self_eq_true]
   | false=>
    simp only [cond_false]
    rw [ZaG,hl]
    by_cases k0:k=0
    ·rw [if_pos k0,k0]
     simp only [Zaa,beq_self_eq_true,cond_true]
    ·rw [if_neg k0]
     simp only [Zaa]
end Ev
end
