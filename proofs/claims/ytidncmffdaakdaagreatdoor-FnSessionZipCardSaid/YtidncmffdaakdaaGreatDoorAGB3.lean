/- Plain laws about what the functions compute. Conditions: as stated. -/
import Derived.Test.YtidncmffdaakdaaGreatDoorAGB2
set_option linter.unusedVariables false
set_option linter.unusedSimpArgs false
section
namespace Ev
open Go
theorem Zvd (a b:Bool):(bif a then some b else some false)=some (a&&b):=by cases a<;>rfl
theorem or_go (a b:Bool):(bif a then some true else some b)=some (a||b):=by cases a<;>rfl
theorem Zv1 (s:Str):ZdL s=some (match s.findIdx? (· == 32) with | some i=>(i:Int) | none=>-1):=by
 unfold ZdL
 simp only [Zaa]
 by_cases c:[32]=s
 ·subst c;rfl
 ·rw [beq_false_of_ne c,cond_false]
  unfold Zbm Zb3
  simp only [Zaa]
  rw [Zzt s 32 32 rfl]
  rfl
theorem Zu1 (s:Str) (hs:s.length≤1048576):Zje s=some (Zd5 32 s):=by
 unfold Zje ZfA Zd5
 rw [Zv1]
 simp only [Zaa]
 cases h:s.findIdx? (· == 32) with
 | none=>rfl
 | some i=>
  have:=Zwa h
  dsimp only
  rw [decide_eq_true (by omega),cond_true,Zab _ (by simp;omega),Zaf (by omega) (by omega),Zab _ (by simp;omega),show ((i:Int)+1).toNat=i+1 by omega,Int.toNat_natCast]
  rfl
theorem Zqm (s:Str):ZzE 32 2 s=if (Zd5 32 s).2.2=false then [s] else if (Zd5 32 (Zd5 32 s).2.1).2.2=false then [(Zd5 32 s).1,(Zd5 32 s).2.1] else [(Zd5 32 s).1,(Zd5 32 (Zd5 32 s).2.1).1,(Zd5 32 (Zd5 32 s).2.1).2.1]:=by
 rw [ZzE]
 unfold Zd5
 cases h:s.findIdx? (· == 32) with
 | none=>rfl
 | some i=>
  dsimp only
  rw [if_neg (by simp),ZzE]
  cases h2:(s.drop (i+1)).findIdx? (· == 32) with
  | none=>rfl
  | some j=>rfl
theorem ZAK {s:Str} (h:(Zd5 32 s).2.2=false):Zd5 32 s=(s,[],false):=by
 unfold Zd5 at h ⊢
 cases hf:s.findIdx? (· == 32) with
 | none=>rfl
 | some i=>rw [hf] at h;cases h
theorem Zwp (s:Str) (hs:s.length≤1048576):∃k:Nat,k<4294967296∧Zie s=some (k:Int)∧ZaT s=some (k:Int):=by
 obtain ⟨h1,n,h2,h3,h4⟩:=Zwo s (by omega)
 obtain ⟨k,rfl⟩:=Int.eq_ofNat_of_zero_le h3
 exact ⟨k,by omega,h1.trans h2,h2⟩
def adlM (s:Str):Nat:=((Zie s).getD 0).toNat
theorem Zqv (s:Str) (hs:s.length≤1048576):Zie s=some ((adlM s:Nat):Int)∧ZaT s=some ((adlM s:Nat):Int)∧adlM s<4294967296:=by
 obtain ⟨k,h1,h2,h3⟩:=Zwp s hs
 have:adlM s=k:=by unfold adlM;rw [h2];simp
 rw [this];exact ⟨h2,h3,h1⟩
def ZlQ (s:Str):Nat:=((Zd4 s).getD 0 0).toNat/2%4
theorem Ztl (m:Option (List Bool)) (out:List Int):Zd9 3 m out=none:=rfl
theorem ZxM (c:UInt8) (r:Str):∃b l1,ZcQ (c::r)=b::l1∧Zcr (l1.take 2)=c.toNat/2%4:=by
 have h8:ZbM c.toNat 8=[c.toNat.testBit 0,c.toNat.testBit 1,c.toNat.testBit 2,c.toNat.testBit 3,c.toNat.testBit 4,c.toNat.testBit 5,c.toNat.testBit 6,c.toNat.testBit 7]:=rfl
 refine ⟨c.toNat.testBit 0,[c.toNat.testBit 1,c.toNat.testBit 2,c.toNat.testBit 3,c.toNat.testBit 4,c.toNat.testBit 5,c.toNat.testBit 6,c.toNat.testBit 7]++ZcQ r,by rw [ZcQ,h8];rfl,?_⟩
 show Zcr [c.toNat.testBit 1,c.toNat.testBit 2]=_
 have h:=Zjp (c.toNat/2) 2
 have e:ZbM (c.toNat/2) 2=[c.toNat.testBit 1,c.toNat.testBit 2]:=by
  show [(c.toNat/2).testBit 0,(c.toNat/2).testBit 1]=_
  rw [Nat.testBit_div_two,Nat.testBit_div_two]
 rw [e] at h
 exact h
theorem Zxn {s:Str} {o:List Int} {n:Nat} (h:ZqC s=some (o,n)):0<s.length∧(s.getD 0 0).toNat/2%4<3:=by
 cases s with
 | nil=>
  exfalso
  unfold ZqC at h
  rw [show ZcQ []=[] from rfl,mGo,ZmJ] at h
  cases h
 | cons c r=>
  refine ⟨by simp,?_⟩
  have hlt:c.toNat/2%4<4:=Nat.mod_lt _ (by omega)
  by_cases h3:c.toNat/2%4=3
  ·exfalso
   obtain ⟨b,l1,e1,e2⟩:=ZxM c r
   unfold ZqC at h
   rw [mGo,e1,ZfQ,e2,h3,Ztl] at h
   cases h
  ·show c.toNat/2%4<3
   omega
theorem ZxN (s:Str) (hs:s.length≤300):Zc1 (Zd4 s)=some ((ZlQ s:Nat):Int)∧Zbr (Zd4 s)=some ((ZlQ s:Nat):Int)∧ZlQ s<3:=by
 have hm:=Zrw s hs
 have hl:=Ziz s
 obtain ⟨h0,h3⟩:=Zxn hm
 have hf:(if 700<(Zd4 s).length then (([]:Str),(0:Int),false) else Zv3 (ZqC (Zd4 s)))=Zv3 (ZqC (Zd4 s)):=if_neg (by omega)
 have hc:((Zd4 s).getD 0 0).toNat<256:=UInt8.toNat_lt _
 have hx:(decide ((0:Int)≤(0:Int))&&decide ((0:Int)<((Zd4 s).length:Int)))=true:=by simp;omega
 refine ⟨?_,?_,h3⟩
 ·unfold Zc1 ZlQ
  rw [Znj,hf,hm]
  simp only [Zaa,Zv3,Bool.not_true,cond_false]
  rw [Zab _ hx]
  generalize ((Zd4 s).getD 0 0).toNat=c at hc
  have e1:=Ze9 c 1 (by omega)
  have e2:=Zf7 (c/2) 2 (by omega) (by omega)
  rw [show ((1:Nat):Int)=1 from rfl,Nat.pow_one] at e1
  rw [show ((2^2-1:Nat):Int)=3 from rfl,show (2:Nat)^2=4 from rfl] at e2
  rw [Zaf (by omega) (by omega),e1,e2]
 ·unfold Zbr ZlQ
  rw [ZhP,hf,hm]
  simp only [Zaa,Zv3,Bool.not_true,cond_false]
  rw [Zab _ hx]
  generalize ((Zd4 s).getD 0 0).toNat=c at hc
  rw [Zaf (n:=(c:Int)) (by omega) (by omega),ZaF (by omega),Zaf (by omega) (by omega),ZaG (by omega)]
  congr 1
def mkE (n t:Str):Fil:=(n,2000,1,1,0,0,0,t)
def ZsL (es:List Fil) (e:Fil):List Fil×Int:=if Zmc es e=0 then (es++[e],0) else (es,Zmc es e)
def ZjZ (es:List Fil) (n:Str):List Fil×Int:=match atM es n with
 | none=>(es,2)
 | some i=>(Zf8 es i,0)
def Zs0 (es:List Fil) (e:Fil):List Fil×Int:=if Zcj e=false then (es,1) else match atM es e.1 with
 | none=>(es,2)
 | some i=>(es.set i e,0)
def Ztk (es:List Fil) (n t:Str):List Fil×Int:=if Zdd t=false then (es,1) else match atM es n with
 | none=>(es,2)
 | some i=>if Zft (Zf8 es i) t=true then (es,3) else (ZpQ es i t,0)
structure Edit (es:List Fil) (r:List Fil×Int):Prop where
 zip:ZdR r.1=true
 lo:0≤r.2
 hi:r.2<5
 same:r.2≠0→r.1=es
theorem Zwq (es:List Fil) (e:Fil):0≤Zmc es e∧Zmc es e<5:=by
 unfold Zmc
 split
 ·omega
 ·split
  ·omega
  ·split<;>omega
theorem ZtV {es:List Fil} (h:ZdR es=true) (e:Fil):Edit es (ZsL es e):=by
 unfold ZsL
 have:=Zwq es e
 by_cases c:Zmc es e=0
 ·rw [if_pos c];exact ⟨(Zj9 h c).1,by dsimp only;omega,by dsimp only;omega,fun q=>absurd rfl q⟩
 ·rw [if_neg c];exact ⟨h,this.1,this.2,fun _=>rfl⟩
theorem Zqk {es:List Fil} (h:ZdR es=true) (n:Str):Edit es (ZjZ es n):=by
 unfold ZjZ
 cases atM es n with
 | none=>exact ⟨h,by dsimp only;omega,by dsimp only;omega,fun _=>rfl⟩
 | some i=>exact ⟨Zpq h (Zg1 es i),by dsimp only;omega,by dsimp only;omega,fun q=>absurd rfl q⟩
theorem ZpA {es:List Fil} (h:ZdR es=true) (e:Fil):Edit es (Zs0 es e):=by
 unfold Zs0
 cases hf:Zcj e with
 | false=>rw [if_pos rfl];exact ⟨h,by dsimp only;omega,by dsimp only;omega,fun _=>rfl⟩
 | true=>
  rw [if_neg (by simp)]
  cases ha:atM es e.1 with
  | none=>exact ⟨h,by dsimp only;omega,by dsimp only;omega,fun _=>rfl⟩
  | some i=>
   obtain ⟨hi,hn⟩:=ZdX ha
   exact ⟨Zpr h hf hi hn,by dsimp only;omega,by dsimp only;omega,fun q=>absurd rfl q⟩
theorem ZpT {es:List Fil} (h:ZdR es=true) (n t:Str):Edit es (Ztk es n t):=by
 unfold Ztk
 cases hf:Zdd t with
 | false=>rw [if_pos rfl];exact ⟨h,by dsimp only;omega,by dsimp only;omega,fun _=>rfl⟩
 | true=>
  rw [if_neg (by simp)]
  cases ha:atM es n with
  | none=>exact ⟨h,by dsimp only;omega,by dsimp only;omega,fun _=>rfl⟩
  | some i=>
   obtain ⟨hi,hn⟩:=ZdX ha
   dsimp only
   cases hc:Zft (Zf8 es i) t with
   | true=>rw [if_pos rfl];exact ⟨h,by dsimp only;omega,by dsimp only;omega,fun _=>rfl⟩
   | false=>rw [if_neg (by simp)];exact ⟨Zps h hi hf hc,by dsimp only;omega,by dsimp only;omega,fun q=>absurd rfl q⟩
theorem ZqJ {es:List Fil} (h:ZdR es=true) (e:Fil):Zki (Zeu es) e=(Zeu (ZsL es e).1,(ZsL es e).2):=by
 unfold Zki ZsL
 rw [Zdl es h]
 dsimp only
 split<;>rfl
theorem Zoe {es:List Fil} (h:ZdR es=true) (n:Str):Zij (Zeu es) n=(Zeu (ZjZ es n).1,(ZjZ es n).2):=by
 unfold Zij ZjZ
 rw [Zdl es h]
 dsimp only
 cases atM es n<;>rfl
theorem Zn9 {es:List Fil} (h:ZdR es=true) (e:Fil):Zih (Zeu es) e=(Zeu (Zs0 es e).1,(Zs0 es e).2):=by
 unfold Zih Zs0
 rw [Zdl es h]
 dsimp only
 split
 ·rfl
 ·cases atM es e.1<;>rfl
theorem Zoa {es:List Fil} (h:ZdR es=true) (n t:Str):Zii (Zeu es) n t=(Zeu (Ztk es n t).1,(Ztk es n t).2):=by
 unfold Zii Ztk
 rw [Zdl es h]
 dsimp only
 split
 ·rfl
 ·cases atM es n with
  | none=>rfl
  | some i=>
   dsimp only
   split<;>rfl
def ZtO (k:Int):Str:=(([[102,105,110,101],[102,111,114,109],[110,111,110,101],[116,119,105,99,101],[102,117,108,108]]:List Str).getD k.toNat [])++[10]
theorem Zyl (k:Int):(ZtO k).length≤10:=by
 unfold ZtO
 by_cases c:k.toNat<5
 ·have:k.toNat=0∨k.toNat=1∨k.toNat=2∨k.toNat=3∨k.toNat=4:=by omega
  rcases this with e | e | e | e | e<;>rw [e]<;>decide
 ·rw [List.getD_eq_getElem?_getD,List.getElem?_eq_none (by simp;omega)];simp
theorem Zis {k:Int} (h0:0≤k) (h5:k<5):Zd1 k=some (ZtO k):=by
 have:k=0∨k=1∨k=2∨k=3∨k=4:=by omega
 rcases this with rfl | rfl | rfl | rfl | rfl<;>rfl
theorem Zzh (text zip_:Str) {k:Int} (h0:0≤k) (h5:k<5):ZhX text k zip_=some (ZtO k,if k=0 then text else zip_):=by
 have:k=0∨k=1∨k=2∨k=3∨k=4:=by omega
 rcases this with rfl | rfl | rfl | rfl | rfl<;>rfl
theorem ZpW {es:List Fil} {r:List Fil×Int} (h:Edit es r):ZhX (Zeu r.1) r.2 (Zeu es)=some (ZtO r.2,Zeu r.1):=by
 rw [Zzh _ _ h.lo h.hi]
 by_cases c:r.2=0
 ·rw [if_pos c]
 ·rw [if_neg c,h.same c]
def ZlP (es:List Fil):Str:=(es.map fun e=>e.1++[32]++dec e.txt.length++[10]).flatten
theorem Ztb {e:Fil} (h:Zcj e=true):(dec e.txt.length).length≤3∧e.1.length≤43:=by
 obtain ⟨q1,q2,q3⟩:=ZbD h
 have:=(Zdw q1).2
 have:=Zql 2 e.txt.length (by omega)
 omega
theorem ZkK (e:Fil) (r:List Fil):ZlP (e::r)=(e.1++[32]++dec e.txt.length++[10])++ZlP r:=by unfold ZlP;rw [List.map_cons,List.flatten_cons]
theorem ZrD:∀(es:List Fil),(∀e∈es,Zcj e=true)→(ZlP es).length≤100*es.length
 | [],_=>by simp [ZlP]
 | e::r,h=>by
  have h1:=Ztb (h e (List.mem_cons_self ..))
  have h2:=ZrD r (fun x hx=>h x (List.mem_cons_of_mem _ hx))
  rw [ZkK];simp;omega
theorem Zxu (es:List Fil) (hn:es.length≤1000) (hx:∀e∈es,Zcj e=true) (o:Str):∀(j i:Nat) (out:Str),i+j=es.length→out.length≤100*i→
  ZlB.l0 (j+1) (out,(es.length:Int),(i:Int),o,es)=some (out++ZlP (es.drop i),o)
 | 0,i,out,h,ho=>by
  rw [ZlB.l0.succ];simp only [ZlB.l0.step]
  rw [ZaQ (by omega),List.drop_eq_nil_of_le (by omega)];simp [ZlP]
 | j+1,i,out,h,ho=>by
  have hi:i<es.length:=by omega
  have h1:=Ztb (hx es[i] (List.getElem_mem hi))
  have h2:es[i].txt.length<9223372036854775808:=by
   have:=(ZbD (hx es[i] (List.getElem_mem hi))).2.2;omega
  rw [ZlB.l0.succ];simp only [ZlB.l0.step]
  rw [ZaP hi,cond_true,Zab _ Zav,Int.toNat_natCast,Zgs es i hi]
  show need (fits (es[i].1.length+1)) ((itoa ((es[i].txt.length:Nat):Int)).bind _)=_
  rw [ZjL _ h2,Zad (by omega)]
  simp only [Zaa]
  rw [Zad (by simp;omega),Zad (by simp;omega),Zad (by simp;omega),Zaf (by omega) (by omega),show (i:Int)+1=((i+1:Nat):Int) by omega,
   Zxu es hn hx o j (i+1) _ (by omega) (by simp;omega),List.drop_eq_getElem_cons hi,ZkK,List.append_assoc]
theorem Zm1 (es:List Fil) (hn:es.length≤1000) (hx:∀e∈es,Zcj e=true):∀(j i:Nat) (out:Str),i+j=es.length→out.length≤100*i→
  ZbB.l0 (j+1) (out,(i:Int),es)=some (out++ZlP (es.drop i))
 | 0,i,out,h,ho=>by
  rw [ZbB.l0.succ];simp only [ZbB.l0.step]
  rw [ZaQ (by omega),List.drop_eq_nil_of_le (by omega)];simp [ZlP]
 | j+1,i,out,h,ho=>by
  have hi:i<es.length:=by omega
  have h1:=Ztb (hx es[i] (List.getElem_mem hi))
  have h2:es[i].txt.length<9223372036854775808:=by
   have:=(ZbD (hx es[i] (List.getElem_mem hi))).2.2;omega
  rw [ZbB.l0.succ];simp only [ZbB.l0.step]
  rw [ZaP hi,cond_true,Zab _ Zav,Zab _ Zav,Int.toNat_natCast,Zgs es i hi]
  show need (fits (out.length+es[i].1.length)) (need (fits ((out++es[i].1).length+1)) ((ZeO ((es[i].txt.length:Nat):Int)).bind _))=_
  rw [ZjH _ h2,Zad (by omega),Zad (by simp;omega)]
  simp only [Zaa]
  rw [Zad (by simp;omega),Zad (by simp;omega),Zaf (by omega) (by omega),show (i:Int)+1=((i+1:Nat):Int) by omega,
   Zm1 es hn hx j (i+1) _ (by omega) (by simp;omega),List.drop_eq_getElem_cons hi,ZkK]
  simp [List.append_assoc]
theorem Ztz {es:List Fil} (h:ZdR es=true):ZbB (Zeu es)=some (ZlP es):=by
 obtain ⟨h1,h2⟩:=ZbI h
 have hl:=Zm1 es (by omega) h1 es.length 0 [] (by omega) (by simp)
 rw [show ((0:Nat):Int)=0 from rfl,List.drop_zero,List.nil_append] at hl
 unfold ZbB
 rw [ZdV _ (Zg5 h),Zdl es h]
 simp only [ZqG,Zaa]
 rw [ZaA,hl]
 simp only [Zaa]
theorem ZpF {es:List Fil} (h:ZdR es=true) (n:Str):ZbZ (Zeu es) n=some (Zg0 es n):=by
 have h6:=(ZbI h).2
 unfold ZbZ Zg0
 rw [ZdV _ (Zg5 h),Zdl es h]
 simp only [ZqG,Zaa]
 rw [Zi4 es n (by omega)]
 simp only [Zaa]
 cases ha:atM es n with
 | none=>rfl
 | some i=>
  obtain ⟨hi,hn⟩:=ZdX ha
  rw [show atZ (some i)=(i:Int) from rfl,decide_eq_false (by omega),cond_false,Zab _ (by simp;omega),Int.toNat_natCast]
  rfl
theorem Znm {es:List Fil} (h:ZdR es=true) (n:Str):(Zg0 es n).1.length≤300:=by
 unfold Zg0
 cases ha:atM es n with
 | none=>simp
 | some i=>
  obtain ⟨hi,hn⟩:=ZdX ha
  dsimp only
  rw [show es.getD i Fil.z=es[i] from Zan hi]
  exact (ZbD ((ZbI h).1 _ (List.getElem_mem hi))).2.2
def Zv4 (es:List Fil) (n:Str):Str:=bif !(Zg0 es n).2 then [110,111,110,101,10] else (Zg0 es n).1++[10]
def ZxO (s:Str):Str:=(([[115,116,111,114,101],[102,105,120,101,100],[111,119,110]]:List Str).getD (ZlQ s) [])
def ZAD (s:Str):Str:=ZxO s++[32]++dec (Zd4 s).length++[10]
def sumT (s:Str):Str:=dec (Zqn s)++[32]++dec (adlM s)++[10]
def Zvn:Str:=[119,104,97,116,10]
def ZsY (r:List Fil×Int):List Fil×Str:=(r.1,ZtO r.2)
def Zer (es:List Fil) (s:Str):List Fil×Str:=
 let p:=Zd5 32 s
 let q:=Zd5 32 p.2.1
 bif p.1==[97,100,100]&&q.2.2 then ZsY (ZsL es (mkE q.1 q.2.1)) else
 bif p.1==[115,119,97,112]&&q.2.2 then ZsY (Zs0 es (mkE q.1 q.2.1)) else
 bif p.1==[109,111,118,101]&&q.2.2 then ZsY (Ztk es q.1 q.2.1) else
 bif s==[108,105,115,116] then (es,ZlP es) else
 bif s==[108,111,110,103] then (es,dec (Zeu es).length++[10]) else
 bif !p.2.2||q.2.2 then (es,Zvn) else
 bif p.1==[100,114,111,112] then ZsY (ZjZ es p.2.1) else
 bif p.1==[103,101,116] then (es,Zv4 es p.2.1) else
 bif p.1==[115,117,109] then (es,sumT p.2.1) else
 bif p.1==[107,105,110,100]&&decide ((p.2.1.length:Int)≤300) then (es,ZAD p.2.1) else
 (es,Zvn)
theorem Zm2 (s:Str):(ZxO s).length≤5:=by
 unfold ZxO
 have h:ZlQ s<4:=Nat.mod_lt _ (by omega)
 have:ZlQ s=0∨ZlQ s=1∨ZlQ s=2∨ZlQ s=3:=by omega
 rcases this with e | e | e | e<;>rw [e]<;>decide
theorem Zdj {n:Nat} (h:n<4294967296):(dec n).length≤10:=(Zql 9 n (by omega)).2
theorem ZpV {es:List Fil} (h:ZdR es=true) {s:Str} (hs:s.length≤1048576):ZdR (Zer es s).1=true∧(Zer es s).2.length≤1000:=by
 obtain ⟨h1,h2⟩:=ZbI h
 have hk:∀r:List Fil×Int,Edit es r→ZdR (ZsY r).1=true∧(ZsY r).2.length≤1000:=fun r q=>⟨q.zip,by have:=Zyl r.2;show (ZtO r.2).length≤1000;omega⟩
 have hw:ZdR (es,Zvn).1=true∧(es,Zvn).2.length≤1000:=⟨h,by show Zvn.length≤1000;decide⟩
 have hc:=Ziw 32 s
 unfold Zer
 generalize Zd5 32 s=p at hc
 dsimp only
 generalize Zd5 32 p.2.1=q
 cases p.1==[97,100,100]&&q.2.2 with
 | true=>exact hk _ (ZtV h _)
 | false=>
  cases p.1==[115,119,97,112]&&q.2.2 with
  | true=>exact hk _ (ZpA h _)
  | false=>
   cases p.1==[109,111,118,101]&&q.2.2 with
   | true=>exact hk _ (ZpT h _ _)
   | false=>
    cases s==[108,105,115,116] with
    | true=>exact ⟨h,by have:=ZrD es h1;show (ZlP es).length≤1000;omega⟩
    | false=>
     cases s==[108,111,110,103] with
     | true=>exact ⟨h,by
       have:=Zkh es h
       have:=Zdj (n:=(Zeu es).length) (by omega)
       show (dec (Zeu es).length++[10]).length≤1000
       simp;omega⟩
     | false=>
      cases !p.2.2||q.2.2 with
      | true=>exact hw
      | false=>
       cases p.1==[100,114,111,112] with
       | true=>exact hk _ (Zqk h _)
       | false=>
        cases p.1==[103,101,116] with
        | true=>exact ⟨h,by
          show (Zv4 es p.2.1).length≤1000
          have:=Znm h p.2.1
          unfold Zv4
          cases !(Zg0 es p.2.1).2 with
          | true=>simp
          | false=>simp only [cond_false,List.length_append,List.length_cons,List.length_nil];omega⟩
        | false=>
         cases p.1==[115,117,109] with
         | true=>exact ⟨h,by
           show (sumT p.2.1).length≤1000
           have a1:=Zdj (ZgI p.2.1)
           have a2:=Zdj (Zqv p.2.1 (by omega)).2.2
           unfold sumT
           simp;omega⟩
         | false=>
          by_cases hl:p.2.1.length≤300
          ·rw [show decide ((p.2.1.length:Int)≤300)=true from decide_eq_true (by omega),Bool.and_true]
           cases p.1==[107,105,110,100] with
           | true=>exact ⟨h,by
             show (ZAD p.2.1).length≤1000
             have a1:=Zm2 p.2.1
             have a2:=Ziz p.2.1
             have a3:=Zdj (n:=(Zd4 p.2.1).length) (by omega)
             unfold ZAD
             simp;omega⟩
           | false=>exact hw
          ·rw [show decide ((p.2.1.length:Int)≤300)=false from decide_eq_false (by omega),Bool.and_false]
           exact hw
theorem ZAy {es:List Fil} (h:ZdR es=true) {s:Str} (hs:s.length≤1048576):ZlB s (Zeu es)=some ((Zer es s).2,Zeu (Zer es s).1):=by
 obtain ⟨h1,h2⟩:=ZbI h
 have hz:=Zg5 h
 have hc:=Ziw 32 s
 unfold ZlB Zer
 rw [Zu1 s hs]
 generalize Zd5 32 s=p at hc
 obtain ⟨w,rest,more⟩:=p
 dsimp only at hc ⊢
 have hc2:=Ziw 32 rest
 rw [Zaa,Zu1 rest (by omega)]
 generalize Zd5 32 rest=q at hc2
 obtain ⟨name,text,both⟩:=q
 dsimp only at hc2 ⊢
 simp only [Zaa,Zvd,or_go]
 cases hA:w==[97,100,100]&&both with
 | true=>
  have e1:=ZwD (Zeu es) hz (mkE name text) (by show name.length≤_;omega)
  unfold mkE at e1
  dsimp only at e1
  have e3:=ZpW (ZtV h (mkE name text))
  rw [cond_true,e1,show ((name,2000,1,1,0,0,0,text):Fil)=mkE name text from rfl,ZqJ h]
  simp only [Zaa]
  rw [e3];rfl
 | false=>
  simp only [cond_false]
  cases hB:w==[115,119,97,112]&&both with
  | true=>
   have e1:=Zvh (Zeu es) hz (mkE name text) (by show name.length≤_;omega)
   unfold mkE at e1
   dsimp only at e1
   have e3:=ZpW (ZpA h (mkE name text))
   rw [cond_true,e1,show ((name,2000,1,1,0,0,0,text):Fil)=mkE name text from rfl,Zn9 h]
   simp only [Zaa]
   rw [e3];rfl
  | false=>
   simp only [cond_false]
   cases hC:w==[109,111,118,101]&&both with
   | true=>
    have e3:=ZpW (ZpT h name text)
    rw [cond_true,Zvj (Zeu es) name text hz (by omega),Zoa h]
    simp only [Zaa]
    rw [e3];rfl
   | false=>
    simp only [cond_false]
    cases hD:s==[108,105,115,116] with
    | true=>
     have hl:=Zxu es (by omega) h1 (Zeu es) es.length 0 [] (by omega) (by simp)
     rw [show ((0:Nat):Int)=0 from rfl,List.drop_zero,List.nil_append] at hl
     rw [cond_true,ZyI h]
     simp only [Zaa]
     rw [ZaA,hl];rfl
    | false=>
     simp only [cond_false]
     cases hE:s==[108,111,110,103] with
     | true=>
      have hzl:=Zkh es h
      have a1:=Zdj (n:=(Zeu es).length) (by omega)
      rw [cond_true,ZjL _ (by omega)]
      simp only [Zaa]
      rw [Zad (by simp;omega)];rfl
     | false=>
      simp only [cond_false]
      cases hF:!more||both with
      | true=>rfl
      | false=>
       simp only [cond_false]
       cases hG:w==[100,114,111,112] with
       | true=>
        have e3:=ZpW (Zqk h rest)
        rw [cond_true,Zvl (Zeu es) rest hz,Zoe h]
        simp only [Zaa]
        rw [e3];rfl
       | false=>
        simp only [cond_false]
        cases hH:w==[103,101,116] with
        | true=>
         have hfl:=Znm h rest
         rw [cond_true,ZwC h]
         unfold Zv4
         simp only [Zaa]
         generalize Zg0 es rest=r at hfl
         obtain ⟨t,b⟩:=r
         dsimp only at hfl ⊢
         cases b with
         | false=>rfl
         | true=>
          simp only [Bool.not_true,cond_false]
          rw [Zad (by simp;omega)];rfl
        | false=>
         simp only [cond_false]
         cases hI:w==[115,117,109] with
         | true=>
          obtain ⟨b1,b2,b3⟩:=Zqv rest (by omega)
          have a0:=ZgI rest
          have a1:=Zdj a0
          have a2:=Zdj b3
          rw [cond_true,Zz7 rest (by omega)]
          simp only [Zaa]
          rw [ZjL _ (by omega)]
          simp only [Zaa]
          rw [Zad (by simp;omega),b1]
          simp only [Zaa]
          rw [ZjL _ (by omega)]
          simp only [Zaa]
          rw [Zad (by simp;omega),Zad (by simp;omega)];rfl
         | false=>
          simp only [cond_false]
          by_cases hl:rest.length≤300
          ·rw [show decide ((rest.length:Int)≤300)=true from decide_eq_true (by omega),Bool.and_true]
           cases hJ:w==[107,105,110,100] with
           | true=>
            obtain ⟨k1,k2,k3⟩:=ZxN rest hl
            have a1:=Zm2 rest
            have a2:=Ziz rest
            have a3:=Zdj (n:=(Zd4 rest).length) (by omega)
            have hw:([[115,116,111,114,101],[102,105,120,101,100],[111,119,110]]:List Str).getD (ZlQ rest) []=ZxO rest:=rfl
            rw [cond_true,Zni rest hl]
            simp only [Zaa]
            rw [k1]
            simp only [Zaa,Int.toNat_natCast]
            rw [Zab _ (by simp;omega),hw,Zad (by simp;omega),ZjL _ (by omega)]
            simp only [Zaa]
            rw [Zad (by simp;omega),Zad (by simp;omega)];rfl
           | false=>rfl
          ·rw [show decide ((rest.length:Int)≤300)=false from decide_eq_false (by omega),Bool.and_false];rfl
end Ev
end
section
namespace Ev
open Go
theorem Zwg:(Zd5 32 [108,105,115,116]).2.2=false:=rfl
theorem Zwf:(Zd5 32 [108,111,110,103]).2.2=false:=rfl
theorem Zum {s:Str} (h:(Zd5 32 s).2.2=true):(s==[108,105,115,116])=false∧(s==[108,111,110,103])=false:=by
 constructor
 ·apply beq_false_of_ne
  rintro rfl
  rw [Zwg] at h;cases h
 ·apply beq_false_of_ne
  rintro rfl
  rw [Zwf] at h;cases h
theorem ZvY {s:Str} (hl:s.length≤300):ZeG s=some (ZxO s):=by
 obtain ⟨k1,k2,k3⟩:=ZxN s hl
 unfold ZeG
 rw [ZfX s hl]
 simp only [Zaa]
 rw [k2]
 simp only [Zaa,Int.toNat_natCast]
 rw [Zab _ (by simp;omega)]
 rfl
theorem Zzq:ZjI=some (2000,1,1,0,0,0):=rfl
theorem Ztj {α:Type} {x:Option α}:need true x=x:=rfl
theorem ZtB {es:List Fil} (h:ZdR es=true) {s:Str} (hs:s.length≤1048576) (hc:(Zd5 32 s).2.2=false):Zds (Zeu es) s=some (Zeu (Zer es s).1,(Zer es s).2):=by
 have hcut:=Zm0 s hs 32 2 (by omega)
 rw [show (((32:UInt8).toNat:Nat):Int)=32 from rfl,show ((2:Nat):Int)=2 from rfl,Zqm,if_pos hc] at hcut
 have d0:(decide ((0:Int)≤(0:Int))&&decide ((0:Int)<(([s]:List Str).length:Int)))=true:=rfl
 have e2:((([s]:List Str).length:Int)==2)=false:=rfl
 have e3:((([s]:List Str).length:Int)==3)=false:=rfl
 unfold Zds Zer
 rw [hcut,ZAK hc]
 dsimp only
 rw [show Zd5 32 []=([],[],false) from rfl]
 simp only [Zaa,d0,e2,e3,Ztj,Zvd,Bool.and_false,cond_false,Bool.not_false,Bool.true_or,cond_true]
 cases hD:s==[108,105,115,116] with
 | true=>
  simp only [cond_true]
  rw [Ztz h];rfl
 | false=>
  simp only [cond_false]
  cases hE:s==[108,111,110,103] with
  | true=>
   have hzl:=Zkh es h
   have a1:=Zdj (n:=(Zeu es).length) (by omega)
   simp only [cond_true]
   rw [ZjH _ (by omega)]
   simp only [Zaa]
   rw [Zad (by simp;omega)]
  | false=>rfl
theorem ZtA {es:List Fil} (h:ZdR es=true) {s:Str} (hs:s.length≤1048576) (hc:(Zd5 32 s).2.2=true) (hb:(Zd5 32 (Zd5 32 s).2.1).2.2=false):Zds (Zeu es) s=some (Zeu (Zer es s).1,(Zer es s).2):=by
 have hz:=Zg5 h
 have hcut:=Zm0 s hs 32 2 (by omega)
 have hlen:=Ziw 32 s
 obtain ⟨n1,n2⟩:=Zum hc
 rw [show (((32:UInt8).toNat:Nat):Int)=32 from rfl,show ((2:Nat):Int)=2 from rfl,Zqm,if_neg (by rw [hc];simp),if_pos hb] at hcut
 unfold Zds Zer
 rw [hcut]
 generalize Zd5 32 s=p at hc hb hlen
 obtain ⟨w,rest,more⟩:=p
 dsimp only at hc hb hlen ⊢
 subst hc
 have d0:(decide ((0:Int)≤(0:Int))&&decide ((0:Int)<(([w,rest]:List Str).length:Int)))=true:=rfl
 have d1:(decide ((0:Int)≤(1:Int))&&decide ((1:Int)<(([w,rest]:List Str).length:Int)))=true:=rfl
 have e2:((([w,rest]:List Str).length:Int)==2)=true:=rfl
 have e3:((([w,rest]:List Str).length:Int)==3)=false:=rfl
 have g0:([w,rest]:List Str).getD 0 []=w:=rfl
 have g1:([w,rest]:List Str).getD 1 []=rest:=rfl
 rw [hb,n1,n2]
 simp only [Zaa,d0,d1,e2,e3,g0,g1,Ztj,Zvd,Bool.and_false,Bool.and_true,cond_false,Bool.not_true,Bool.or_false,cond_true]
 cases hG:w==[100,114,111,112] with
 | true=>
  have e4:=Zqk h rest
  simp only [cond_true]
  rw [ZnV (Zeu es) rest hz,Zoe h]
  simp only [Zaa]
  rw [Zis e4.lo e4.hi];rfl
 | false=>
  simp only [cond_false]
  cases hH:w==[103,101,116] with
  | true=>
   have hfl:=Znm h rest
   simp only [cond_true]
   rw [ZpF h]
   unfold Zv4
   simp only [Zaa]
   generalize Zg0 es rest=r at hfl
   obtain ⟨t,b⟩:=r
   dsimp only at hfl ⊢
   cases b with
   | false=>rfl
   | true=>
    simp only [Bool.not_true,cond_false]
    rw [Zad (by simp;omega)]
  | false=>
   simp only [cond_false]
   cases hI:w==[115,117,109] with
   | true=>
    obtain ⟨b1,b2,b3⟩:=Zqv rest (by omega)
    have a0:=ZgI rest
    have a1:=Zdj a0
    have a2:=Zdj b3
    simp only [cond_true]
    rw [Zks rest (by omega)]
    simp only [Zaa]
    rw [ZjH _ (by omega)]
    simp only [Zaa]
    rw [Zad (by simp;omega),b2]
    simp only [Zaa]
    rw [ZjH _ (by omega)]
    simp only [Zaa]
    rw [Zad (by simp;omega),Zad (by simp;omega)];rfl
   | false=>
    simp only [cond_false]
    by_cases hl:rest.length≤300
    ·rw [show decide ((rest.length:Int)≤300)=true from decide_eq_true (by omega),Bool.and_true]
     cases hJ:w==[107,105,110,100] with
     | true=>
      have a1:=Zm2 rest
      have a2:=Ziz rest
      have a3:=Zdj (n:=(Zd4 rest).length) (by omega)
      simp only [cond_true]
      rw [ZvY hl]
      simp only [Zaa]
      rw [Zad (by simp;omega),ZfX rest hl]
      simp only [Zaa]
      rw [ZjH _ (by omega)]
      simp only [Zaa]
      rw [Zad (by simp;omega),Zad (by simp;omega)];rfl
     | false=>rfl
    ·rw [show decide ((rest.length:Int)≤300)=false from decide_eq_false (by omega),Bool.and_false];rfl
theorem Zp3 {es:List Fil} (h:ZdR es=true) {s:Str} (hs:s.length≤1048576) (hc:(Zd5 32 s).2.2=true) (hb:(Zd5 32 (Zd5 32 s).2.1).2.2=true):Zds (Zeu es) s=some (Zeu (Zer es s).1,(Zer es s).2):=by
 have hz:=Zg5 h
 have hcut:=Zm0 s hs 32 2 (by omega)
 have hlen:=Ziw 32 s
 have hlen2:=Ziw 32 (Zd5 32 s).2.1
 obtain ⟨n1,n2⟩:=Zum hc
 rw [show (((32:UInt8).toNat:Nat):Int)=32 from rfl,show ((2:Nat):Int)=2 from rfl,Zqm,if_neg (by rw [hc];simp),if_neg (by rw [hb];simp)] at hcut
 unfold Zds Zer
 rw [hcut]
 generalize Zd5 32 s=p at hc hb hlen hlen2
 obtain ⟨w,rest,more⟩:=p
 dsimp only at hc hb hlen hlen2 ⊢
 generalize Zd5 32 rest=q at hb hlen2
 obtain ⟨name,text,both⟩:=q
 dsimp only at hb hlen2 ⊢
 subst hc hb
 have d0:(decide ((0:Int)≤(0:Int))&&decide ((0:Int)<(([w,name,text]:List Str).length:Int)))=true:=rfl
 have d1:(decide ((0:Int)≤(1:Int))&&decide ((1:Int)<(([w,name,text]:List Str).length:Int)))=true:=rfl
 have d2:(decide ((0:Int)≤(2:Int))&&decide ((2:Int)<(([w,name,text]:List Str).length:Int)))=true:=rfl
 have e2:((([w,name,text]:List Str).length:Int)==2)=false:=rfl
 have e3:((([w,name,text]:List Str).length:Int)==3)=true:=rfl
 have g0:([w,name,text]:List Str).getD 0 []=w:=rfl
 have g1:([w,name,text]:List Str).getD 1 []=name:=rfl
 have g2:([w,name,text]:List Str).getD 2 []=text:=rfl
 rw [n1,n2]
 simp only [Zaa,Zzq,d0,d1,d2,e2,e3,g0,g1,g2,Ztj,Zvd,Bool.and_false,Bool.and_true,cond_false,Bool.not_true,Bool.or_true,cond_true]
 cases hA:w==[97,100,100] with
 | true=>
  have e1:=ZpG (Zeu es) hz (mkE name text) (by show name.length≤_;omega)
  unfold mkE at e1
  dsimp only at e1
  have e4:=ZtV h (mkE name text)
  simp only [cond_true]
  rw [e1,show ((name,2000,1,1,0,0,0,text):Fil)=mkE name text from rfl,ZqJ h]
  simp only [Zaa]
  rw [Zis e4.lo e4.hi];rfl
 | false=>
  simp only [cond_false]
  cases hB:w==[115,119,97,112] with
  | true=>
   have e1:=ZnT (Zeu es) hz (mkE name text) (by show name.length≤_;omega)
   unfold mkE at e1
   dsimp only at e1
   have e4:=ZpA h (mkE name text)
   simp only [cond_true]
   rw [e1,show ((name,2000,1,1,0,0,0,text):Fil)=mkE name text from rfl,Zn9 h]
   simp only [Zaa]
   rw [Zis e4.lo e4.hi];rfl
  | false=>
   simp only [cond_false]
   cases hC:w==[109,111,118,101] with
   | true=>
    have e4:=ZpT h name text
    simp only [cond_true]
    rw [ZnU (Zeu es) name text hz (by omega),Zoa h]
    simp only [Zaa]
    rw [Zis e4.lo e4.hi];rfl
   | false=>rfl
theorem ZvX {es:List Fil} (h:ZdR es=true) {s:Str} (hs:s.length≤1048576):Zds (Zeu es) s=some (Zeu (Zer es s).1,(Zer es s).2):=by
 cases hc:(Zd5 32 s).2.2 with
 | false=>exact ZtB h hs hc
 | true=>
  cases hb:(Zd5 32 (Zd5 32 s).2.1).2.2 with
  | false=>exact ZtA h hs hc hb
  | true=>exact Zp3 h hs hc hb
def Zgd:List Str→List Fil→List Fil×Str
 | [],es=>(es,[])
 | s::r,es=>((Zgd r (Zer es s).1).1,(Zer es s).2++(Zgd r (Zer es s).1).2)
theorem Zhe:∀(a b:List Str) (es:List Fil),Zgd (a++b) es=((Zgd b (Zgd a es).1).1,(Zgd a es).2++(Zgd b (Zgd a es).1).2)
 | [],b,es=>by simp [Zgd]
 | s::r,b,es=>by
  rw [List.cons_append,Zgd,Zhe r b]
  simp [Zgd]
theorem Zta:∀(a:List Str) (es:List Fil),ZdR es=true→(∀s∈a,s.length≤1048576)→ZdR (Zgd a es).1=true∧(Zgd a es).2.length≤1000*a.length
 | [],es,h,_=>⟨h,by simp [Zgd]⟩
 | s::r,es,h,hx=>by
  obtain ⟨h1,h2⟩:=ZpV h (hx s (List.mem_cons_self ..))
  obtain ⟨i1,i2⟩:=Zta r _ h1 (fun x q=>hx x (List.mem_cons_of_mem _ q))
  refine ⟨i1,?_⟩
  rw [Zgd];simp;omega
def Zbs (lines:List Str):Str:=(Zgd (lines.take 30) []).2
theorem ZiI (lines:List Str) (hn:lines.length≤1048576) (hx:∀s∈lines,s.length≤1048576):∀(j i:Nat) (es:List Fil) (out:Str),i+j=lines.length→ZdR es=true→out.length≤1000*i→
  Zam.l0 (j+1) (lines,Zeu es,out,(i:Int))=some (out++(Zgd ((lines.drop i).take (30-i)) es).2)
 | 0,i,es,out,h,hz,ho=>by
  rw [Zam.l0.succ];simp only [Zam.l0.step]
  rw [ZaQ (by omega),List.drop_eq_nil_of_le (by omega)]
  simp [Zgd]
 | j+1,i,es,out,h,hz,ho=>by
  have hi:i<lines.length:=by omega
  rw [Zam.l0.succ];simp only [Zam.l0.step]
  rw [ZaP hi,cond_true]
  simp only [Zaa]
  by_cases c:i<30
  ·have hxi:=hx lines[i] (List.getElem_mem hi)
   obtain ⟨l1,l2⟩:=ZpV hz hxi
   rw [decide_eq_true (show (i:Int)<30 by omega),cond_true,Zab _ Zav,Int.toNat_natCast,show lines.getD i []=lines[i] from Zan hi,ZvX hz hxi]
   simp only [Zaa]
   rw [Zad (by omega),Zaf (by omega) (by omega),show (i:Int)+1=((i+1:Nat):Int) by omega,ZiI lines hn hx j (i+1) _ _ (by omega) l1 (by simp;omega)]
   rw [List.drop_eq_getElem_cons hi,show 30-i=(30-(i+1))+1 by omega,List.take_succ_cons,Zgd,List.append_assoc]
  ·rw [decide_eq_false (show ¬(i:Int)<30 by omega),show 30-i=0 by omega]
   simp [Zgd]
theorem Zd7 (lines:List Str) (hn:lines.length≤1048576) (hx:∀s∈lines,s.length≤1048576):Zam lines=some (Zbs lines):=by
 have hl:=ZiI lines hn hx lines.length 0 [] [] (by omega) Zjm (by simp)
 rw [show ((0:Nat):Int)=0 from rfl,List.drop_zero,List.nil_append] at hl
 unfold Zam Zbs
 rw [ZjD [] (by simp) (by simp)]
 simp only [Zaa]
 rw [ZaA,hl];rfl
theorem ZqZ:∀(a:List Str) (es:List Fil) (out:Str),ZdR es=true→(∀s∈a,s.length≤1048576)→out.length+1000*a.length≤1000000→Zhx ZlB a (Zeu es) out=some (out++(Zgd a es).2)
 | [],es,out,h,_,_=>by simp [Zhx,Zgd]
 | s::r,es,out,h,hx,hl=>by
  have hxs:=hx s (List.mem_cons_self ..)
  obtain ⟨h1,h2⟩:=ZpV h hxs
  rw [List.length_cons] at hl
  rw [Zhx,ZAy h hxs]
  simp only [Zaa]
  rw [Zad (by omega),ZqZ r _ _ h1 (fun x q=>hx x (List.mem_cons_of_mem _ q)) (by simp;omega),Zgd,List.append_assoc]
theorem Zdb (lines:List Str) (hn:lines.length≤1048576) (hx:∀s∈lines,s.length≤1048576):ZbK lines=some (Zbs lines):=by
 unfold ZbK ZAl Zbs
 rw [Zad (by omega),ZyH Zjm]
 simp only [Zaa]
 have hl:(lines.take 30).length≤30:=by rw [List.length_take];omega
 rw [ZqZ (lines.take 30) [] [] Zjm (fun s q=>hx s (List.mem_of_mem_take q)) (by simp;omega),List.nil_append]
def ZiD:List Str:=[[97,100,100,32,97,32,115,111,109,101,32,116,101,120,116],[97,100,100,32,100,105,114,47,98,32,116,101,120,116,32,116,101,120,116,32,116,101,120,116,32,116,101,120,116,32,116,101,120,116],[97,100,100,32,100,105,114,32,120],[115,119,97,112,32,97,32,111,116,104,101,114],[109,111,118,101,32,97,32,98],[100,114,111,112,32,97],[103,101,116,32,97],[103,101,116,32,100,105,114,47,98],[108,105,115,116],[108,111,110,103],[115,117,109,32,97,98,99],[107,105,110,100,32,97,97,97,97,97,97,97,97,97,97,97,97,97,97,97,97,97,97,97,97],[119,104,97,116],[],[97,100,100,32,65,32,120]]
theorem Zxz:∀s∈ZiD,s.length≤40:=by decide
theorem ZfN (xs:List Int) (h:ZlN xs) (hl:xs.length≤1048576):Ret (Zar xs) fun r=>r.length≤40∧∀s∈r,s∈ZiD:=by
 unfold Zar
 refine .bind (Zzn xs h hl) ?_
 rintro ⟨b,p⟩ ⟨rfl,hr⟩
 dsimp only at hr ⊢
 refine .bind (ZwW 10 hr (by omega) (by omega) (by omega)) ?_
 rintro ⟨n,b1,p1⟩ ⟨rfl,g1,g2,g3⟩
 dsimp only at g1 g2 g3 ⊢
 refine .bind (P:=fun (o:List Int×Int×List Str)=>o.1=b1∧p1≤o.2.1∧o.2.1≤p1+10∧o.2.2.length≤10∧∀s∈o.2.2,s∈ZiD) ?_ ?_
 ·unfold Zar.l0
  refine Ret.loop (fun (t:Int×List Int×Int×List Str)=>t.2.1=b1∧0≤t.1∧t.1≤10∧p1≤t.2.2.1∧t.2.2.1+t.1≤p1+10∧(t.2.2.2.length:Int)+t.1≤10∧∀s∈t.2.2.2,s∈ZiD) (fun t=>t.1.toNat) (fun _ (o:List Int×Int×List Str)=>o.1=b1∧p1≤o.2.1∧o.2.1≤p1+10∧o.2.2.length≤10∧∀s∈o.2.2,s∈ZiD) ?_ _ _ ?_ ?_
  ·rintro again ⟨m,b3,p3,out⟩ ⟨rfl,q1,q2,q3,q4,q5,q6⟩ ih
   dsimp only at q1 q2 q3 q4 q5 q6
   simp only [Zar.l0.step]
   by_cases hm:m>0
   ·rw [decide_eq_true hm,cond_true]
    refine .bind (rdOf_d _ ((hr.up g1).up q3) (by omega) (by decide) (by decide)) ?_
    rintro ⟨y,b4,p4⟩ ⟨rfl,l1,l2,l3⟩
    dsimp only at l1 l2 l3 ⊢
    rw [Zad (by simp;omega),Zaf (by omega) (by omega)]
    refine ih _ ⟨rfl,by dsimp only;omega,by dsimp only;omega,by dsimp only;omega,by dsimp only;omega,by simp;omega,fun s hs=>?_⟩ (by dsimp only;omega)
    rcases List.mem_append.1 hs with hs | hs
    ·exact q6 s hs
    ·have:s=y:=by simpa using hs
     subst this;exact l3
   ·rw [decide_eq_false hm,cond_false]
    exact .pure ⟨rfl,by dsimp only;omega,by dsimp only;omega,by dsimp only;omega,q6⟩
  ·exact ⟨rfl,by dsimp only;omega,by dsimp only;omega,by dsimp only;omega,by dsimp only;omega,by simp;omega,by simp⟩
  ·dsimp only;omega
 rintro ⟨b2,p2,out⟩ ⟨rfl,k1,k2,k3,k4⟩
 dsimp only at k1 k2 k3 k4 ⊢
 refine .bind (ZwW 30 ((hr.up g1).up k1) (by omega) (by omega) (by omega)) ?_
 rintro ⟨x,b3,p3⟩ ⟨rfl,l1,l2,l3⟩
 dsimp only at l1 l2 l3 ⊢
 refine .cond (fun _=>?_) fun _=>.pure ⟨by omega,k4⟩
 refine .bind (P:=fun (o:List Str)=>o.length≤40∧∀s∈o,s∈ZiD) ?_ fun o ho=>.pure ho
 unfold Zar.l1
 refine Ret.loop (fun (t:List Int×Int×List Str)=>t.1=b3∧p3≤t.2.1∧t.2.1≤p3+t.2.2.length∧t.2.2.length≤40∧∀s∈t.2.2,s∈ZiD) (fun t=>41-t.2.2.length) (fun _ (o:List Str)=>o.length≤40∧∀s∈o,s∈ZiD) ?_ _ _ ?_ ?_
 ·rintro again ⟨b4,p4,out⟩ ⟨rfl,q1,q2,q3,q4⟩ ih
  dsimp only at q1 q2 q3 q4
  simp only [Zar.l1.step]
  refine .bind (ZwW 3 (((hr.up g1).up k1).up l1 |>.up q1) (by omega) (by omega) (by omega)) ?_
  rintro ⟨z,b5,p5⟩ ⟨rfl,m1,m2,m3⟩
  dsimp only at m1 m2 m3 ⊢
  rw [Zaf (by omega) (by omega)]
  by_cases hz:(out.length:Int)<29+z
  ·rw [decide_eq_true hz,cond_true,Zad (by simp;omega)]
   refine ih _ ⟨rfl,by dsimp only;omega,by simp;omega,by simp;omega,fun s hs=>?_⟩ (by simp;omega)
   rcases List.mem_append.1 hs with hs | hs
   ·exact q4 s hs
   ·have:s=[108,111,110,103]:=by simpa using hs
    subst this;decide
  ·rw [decide_eq_false hz,cond_false]
   exact .pure ⟨q3,q4⟩
 ·exact ⟨rfl,by dsimp only;omega,by dsimp only;omega,by dsimp only;omega,k4⟩
 ·dsimp only;omega
theorem Zqt {es:List Fil} {i:Nat} {t:Str} (hi:i<es.length):∀e∈ZpQ es i t,e.1=t∨∃x∈es,x.1=e.1:=by
 intro e he
 unfold ZpQ at he
 rcases List.mem_or_eq_of_mem_set he with q | rfl
 ·exact .inr ⟨e,q,rfl⟩
 ·exact .inl rfl
theorem Ztu (es:List Fil) (s:Str):∀e∈(Zer es s).1,e.1=(Zd5 32 (Zd5 32 s).2.1).1∨e.1=(Zd5 32 (Zd5 32 s).2.1).2.1∨∃x∈es,x.1=e.1:=by
 have hself:∀e∈es,e.1=(Zd5 32 (Zd5 32 s).2.1).1∨e.1=(Zd5 32 (Zd5 32 s).2.1).2.1∨∃x∈es,x.1=e.1:=fun e he=>.inr (.inr ⟨e,he,rfl⟩)
 unfold Zer
 dsimp only
 generalize Zd5 32 (Zd5 32 s).2.1=q at hself ⊢
 generalize Zd5 32 s=p
 cases p.1==[97,100,100]&&q.2.2 with
 | true=>
  simp only [cond_true,ZsY,ZsL]
  split
  ·intro e he
   rcases List.mem_append.1 he with he | he
   ·exact hself e he
   ·have:e=mkE q.1 q.2.1:=by simpa using he
    subst this;exact .inl rfl
  ·exact hself
 | false=>
  simp only [cond_false]
  cases p.1==[115,119,97,112]&&q.2.2 with
  | true=>
   simp only [cond_true,ZsY,Zs0]
   split
   ·exact hself
   ·cases ha:atM es (mkE q.1 q.2.1).1 with
    | none=>exact hself
    | some i=>
     intro e he
     rcases List.mem_or_eq_of_mem_set he with he | rfl
     ·exact hself e he
     ·exact .inl rfl
  | false=>
   simp only [cond_false]
   cases p.1==[109,111,118,101]&&q.2.2 with
   | true=>
    simp only [cond_true,ZsY,Ztk]
    split
    ·exact hself
    ·cases ha:atM es q.1 with
     | none=>exact hself
     | some i=>
      dsimp only
      split
      ·exact hself
      ·intro e he
       rcases Zqt (ZdX ha).1 e he with k | k
       ·exact .inr (.inl k)
       ·exact .inr (.inr k)
   | false=>
    simp only [cond_false]
    cases s==[108,105,115,116] with
    | true=>exact hself
    | false=>
     cases s==[108,111,110,103] with
     | true=>exact hself
     | false=>
      cases !p.2.2||q.2.2 with
      | true=>exact hself
      | false=>
       simp only [cond_false]
       cases p.1==[100,114,111,112] with
       | true=>
        simp only [cond_true,ZsY,ZjZ]
        cases ha:atM es p.2.1 with
        | none=>exact hself
        | some i=>exact fun e he=>hself e ((Zg1 es i).subset he)
       | false=>
        cases p.1==[103,101,116] with
        | true=>exact hself
        | false=>
         cases p.1==[115,117,109] with
         | true=>exact hself
         | false=>
          cases p.1==[107,105,110,100]&&decide ((p.2.1.length:Int)≤300) with
          | true=>exact hself
          | false=>exact hself
def Zci:Str:=[102,114,101,115,104]
def ZkF:Str:=[110,111,98,111,100,121]
def ZzT (es:List Fil):Prop:=∀e∈es,hit Zci e.1=false∧e.1≠Zci∧e.1≠ZkF
theorem ZvQ:∀s∈ZiD,(hit Zci (Zd5 32 (Zd5 32 s).2.1).1=false∧(Zd5 32 (Zd5 32 s).2.1).1≠Zci∧(Zd5 32 (Zd5 32 s).2.1).1≠ZkF)∧(hit Zci (Zd5 32 (Zd5 32 s).2.1).2.1=false∧(Zd5 32 (Zd5 32 s).2.1).2.1≠Zci∧(Zd5 32 (Zd5 32 s).2.1).2.1≠ZkF):=by decide
theorem ZvR {es:List Fil} (h:ZzT es) {s:Str} (hs:s∈ZiD):ZzT (Zer es s).1:=by
 obtain ⟨a1,a2⟩:=ZvQ s hs
 intro e he
 rcases Ztu es s e he with q | q | ⟨x,hx,q⟩
 ·rw [q];exact a1
 ·rw [q];exact a2
 ·rw [←q];exact h x hx
theorem Zq4:∀(a:List Str) (es:List Fil),ZzT es→(∀s∈a,s∈ZiD)→ZzT (Zgd a es).1
 | [],es,h,_=>h
 | s::r,es,h,hx=>Zq4 r _ (ZvR h (hx s (List.mem_cons_self ..))) (fun x q=>hx x (List.mem_cons_of_mem _ q))
end Ev
end
section
namespace Ev
open Go
theorem Zf5 {r:List Str} (h:∀s∈r,s∈ZiD):∀s∈r,s.length≤1048576:=fun s hs=>by have:=Zxz s (h s hs);omega
theorem ZcW {lines:List Str} (h:lines.length≤30):Zbs lines=(Zgd lines []).2:=by unfold Zbs;rw [List.take_of_length_le h]
theorem Zs6 (lines:List Str) (k:Nat):∃r,Zbs lines=Zbs (lines.take k)++r∧(30≤k→r=[]):=by
 unfold Zbs
 have e1:(lines.take k).take 30=(lines.take 30).take k:=by rw [List.take_take,List.take_take,Nat.min_comm]
 have e2:lines.take 30=(lines.take 30).take k++(lines.take 30).drop k:=(List.take_append_drop ..).symm
 refine ⟨(Zgd ((lines.take 30).drop k) (Zgd ((lines.take 30).take k) []).1).2,?_,fun hk=>?_⟩
 ·rw [e1]
  conv=>lhs;rw [e2]
  rw [Zhe]
 ·rw [List.drop_eq_nil_of_le (by rw [List.length_take];omega)];rfl
def Ztm:Str:=[108,111,111,107]
def Ze4:Str:=[103,101,116,32,110,111,98,111,100,121]
def Zcm:Str:=[100,114,111,112,32,102,114,101,115,104]
def Zfq:Str:=[97,100,100,32,102,114,101,115,104,32,115,111,109,101,32,116,101,120,116]
def ZsK:Str:=[97,100,100,32,102,114,101,115,104,32,120]
def Zfm:Str:=[103,101,116,32,102,114,101,115,104]
def ZkJ:Str:=[108,111,110,103]
def ZnZ:Str:=[115,111,109,101,32,116,101,120,116]
theorem Zxt (es:List Fil):Zer es Ztm=(es,Zvn):=rfl
theorem Zxv (es:List Fil):Zer es Ze4=(es,Zv4 es ZkF):=rfl
theorem Zxw (es:List Fil):Zer es Zfm=(es,Zv4 es Zci):=rfl
theorem ZoQ (es:List Fil):Zer es Zcm=ZsY (ZjZ es Zci):=rfl
theorem Zxy (es:List Fil):Zer es Zfq=ZsY (ZsL es (mkE Zci ZnZ)):=rfl
theorem Zxx (es:List Fil):Zer es ZsK=ZsY (ZsL es (mkE Zci [120])):=rfl
theorem ZrE (es:List Fil):Zer es ZkJ=(es,dec (Zeu es).length++[10]):=rfl
theorem Zwn {es:List Fil} (h:ZzT es):Zft es Zci=false:=by
 unfold Zft
 rw [List.any_eq_false]
 intro e he
 rw [(h e he).1];simp
theorem ZnN {es:List Fil} (h:ZzT es):Zg0 es Zci=([],false)∧Zg0 es ZkF=([],false)∧atM es Zci=none:=
 ⟨Zsi fun e he=>(h e he).2.1,Zsi fun e he=>(h e he).2.2,Zyx fun e he=>(h e he).2.1⟩
theorem Zvb {es:List Fil} (h:ZzT es) {t:Str} (ht:Zcj (mkE Zci t)=true):Zmc es (mkE Zci t)=if 6≤es.length then 4 else 0:=by
 unfold Zmc
 rw [ht,if_neg (by simp),show (mkE Zci t).1=Zci from rfl,Zwn h,if_neg (by simp)]
theorem Zo9:Zcj (mkE Zci ZnZ)=true∧Zcj (mkE Zci [120])=true:=by decide +kernel
theorem ZzL:ZzT []:=fun e he=>by cases he
theorem Zs9 {lines:List Str} (h:∀s∈lines,s∈ZiD):ZdR (Zgd lines []).1=true∧ZzT (Zgd lines []).1:=
 ⟨(Zta lines [] Zjm (Zf5 h)).1,Zq4 lines [] ZzL h⟩
theorem ZwA {lines:List Str} (h:∀s∈lines,s∈ZiD) (hl:lines.length≤27):Zbs (lines++[Zcm,Zfq,Zfm])=Zbs lines++[110,111,110,101,10,102,105,110,101,10,115,111,109,101,32,116,101,120,116,10]∨
  Zbs (lines++[Zcm,Zfq,Zfm])=Zbs lines++[110,111,110,101,10,102,117,108,108,10,110,111,110,101,10]:=by
 obtain ⟨hz,ha⟩:=Zs9 h
 rw [ZcW (by simp;omega),ZcW (by omega),Zhe]
 generalize (Zgd lines []).1=es at hz ha
 obtain ⟨f1,f2,f3⟩:=ZnN ha
 have hd:ZjZ es Zci=(es,2):=by unfold ZjZ;rw [f3]
 have hadd:=Zvb ha Zo9.1
 rw [Zgd,ZoQ,hd,Zgd,Zxy,Zgd,Zxw,Zgd]
 dsimp only [ZsY]
 by_cases c:6≤es.length
 ·right
  rw [if_pos c] at hadd
  have e:ZsL es (mkE Zci ZnZ)=(es,4):=by unfold ZsL;rw [hadd,if_neg (by decide)]
  rw [e]
  dsimp only
  have hg:Zv4 es Zci=[110,111,110,101,10]:=by unfold Zv4;rw [f1];rfl
  rw [hg];rfl
 ·left
  rw [if_neg c] at hadd
  have e:ZsL es (mkE Zci ZnZ)=(es++[mkE Zci ZnZ],0):=by unfold ZsL;rw [hadd,if_pos rfl]
  have hzz:=(Zj9 hz hadd).1
  have hg:Zv4 (es++[mkE Zci ZnZ]) Zci=ZnZ++[10]:=by
   have hfm:Zg0 (es++[mkE Zci ZnZ]) Zci=(ZnZ,true):=Zx6 hzz (e:=mkE Zci ZnZ) (by simp)
   unfold Zv4
   rw [hfm];rfl
  rw [e]
  dsimp only
  rw [hg];rfl
theorem ZvP {lines:List Str} (h:∀s∈lines,s∈ZiD) (hl:lines.length≤27):∃d:Str,d.length≤100∧Zbs (lines++[ZkJ])=Zbs lines++d∧
  (Zbs (lines++[ZsK,Zcm,ZkJ])=Zbs lines++[102,105,110,101,10,102,105,110,101,10]++d∨Zbs (lines++[ZsK,Zcm,ZkJ])=Zbs lines++[102,117,108,108,10,110,111,110,101,10]++d):=by
 obtain ⟨hz,ha⟩:=Zs9 h
 rw [ZcW (lines:=lines++[ZkJ]) (by simp;omega),ZcW (lines:=lines++[ZsK,Zcm,ZkJ]) (by simp;omega),ZcW (lines:=lines) (by omega),Zhe,Zhe]
 generalize (Zgd lines []).1=es at hz ha
 obtain ⟨f1,f2,f3⟩:=ZnN ha
 have hzl:=Zkh es hz
 have hdl:=Zdj (n:=(Zeu es).length) (by omega)
 have hadd:=Zvb ha Zo9.2
 refine ⟨dec (Zeu es).length++[10],by simp;omega,?_,?_⟩
 ·rw [Zgd,ZrE,Zgd]
  dsimp only
  rw [List.append_nil]
 ·rw [Zgd,Zxx,Zgd,ZoQ,Zgd,ZrE,Zgd]
  dsimp only [ZsY]
  by_cases c:6≤es.length
  ·right
   rw [if_pos c] at hadd
   have e:ZsL es (mkE Zci [120])=(es,4):=by unfold ZsL;rw [hadd,if_neg (by decide)]
   have hd:ZjZ es Zci=(es,2):=by unfold ZjZ;rw [f3]
   rw [e]
   dsimp only
   rw [hd]
   dsimp only
   rw [List.append_nil,List.append_assoc];rfl
  ·left
   rw [if_neg c] at hadd
   have e:ZsL es (mkE Zci [120])=(es++[mkE Zci [120]],0):=by unfold ZsL;rw [hadd,if_pos rfl]
   have hzz:=(Zj9 hz hadd).1
   obtain ⟨a1,a2⟩:=ZzR hzz
   have hd:ZjZ (es++[mkE Zci [120]]) Zci=(es,0):=by
    have a1':atM (es++[mkE Zci [120]]) Zci=some es.length:=a1
    unfold ZjZ
    rw [a1']
    dsimp only
    rw [a2]
   rw [e]
   dsimp only
   rw [hd]
   dsimp only
   rw [List.append_nil,List.append_assoc];rfl
theorem ZrB {a b:List Str} (ha:∀s∈a,s∈ZiD) (hl:a.length+b.length≤28):∃r,Zbs (a++b)=Zbs a++r∧Zbs (a++[Ztm,Ze4]++b)=Zbs a++[119,104,97,116,10,110,111,110,101,10]++r:=by
 obtain ⟨hz,hA⟩:=Zs9 ha
 rw [ZcW (lines:=a++b) (by simp;omega),ZcW (lines:=a) (by omega),ZcW (lines:=a++[Ztm,Ze4]++b) (by simp;omega),Zhe,List.append_assoc,Zhe]
 generalize (Zgd a []).1=es at hz hA
 obtain ⟨f1,f2,f3⟩:=ZnN hA
 have hg:Zv4 es ZkF=[110,111,110,101,10]:=by unfold Zv4;rw [f2];rfl
 refine ⟨(Zgd b es).2,rfl,?_⟩
 rw [List.cons_append,List.cons_append,List.nil_append,Zgd,Zxt,Zgd,Zxv,hg]
 dsimp only
 rw [List.append_assoc];rfl
end Ev
end
section
namespace Ev
open Go
theorem Zlf (xs:List Str) (hn:xs.length≤1048576) (hg:∀s∈xs,s.length≤9223372036854775807):∀(j i:Nat) (left:Int),i+j=xs.length→0≤left→left≤1048576→(∀s∈xs.take i,s.length≤1048576)→
  Zbg.l0 (j+1) (xs,left,(i:Int))=some (.inr (-1))∨∃v,Zbg.l0 (j+1) (xs,left,(i:Int))=some (.inl v)∧∀s∈xs,s.length≤1048576
 | 0,i,left,h,h0,h1,hx=>by
  rw [Zbg.l0.succ];simp only [Zbg.l0.step]
  rw [ZaQ (by omega)]
  rw [List.take_of_length_le (by omega)] at hx
  exact .inr ⟨left,rfl,hx⟩
 | j+1,i,left,h,h0,h1,hx=>by
  have hi:i<xs.length:=by omega
  have hgi:=hg xs[i] (List.getElem_mem hi)
  rw [Zbg.l0.succ];simp only [Zbg.l0.step]
  rw [ZaP hi,cond_true,Zab _ Zav,Int.toNat_natCast,show xs.getD i []=xs[i] from Zan hi,Zaf (n:=left-(xs[i].length:Int)) (by omega) (by omega)]
  by_cases c:left-(xs[i].length:Int)<0
  ·rw [decide_eq_true c];exact .inl rfl
  ·rw [decide_eq_false c,cond_false,Zaf (by omega) (by omega),show (i:Int)+1=((i+1:Nat):Int) by omega]
   refine Zlf xs hn hg j (i+1) _ (by omega) (by omega) (by omega) (fun s hs=>?_)
   rw [List.take_succ_eq_append_getElem hi] at hs
   rcases List.mem_append.1 hs with hs | hs
   ·exact hx s hs
   ·have:s=xs[i]:=by simpa using hs
    subst this;omega
theorem Zpy (xs:List Str) (hl:xs.length≤maxLen) (g:∀y,y∈xs→gEl [.str] y):∃v,Zbg xs 1048576=some v∧(v<0∨(xs.length≤1048576∧∀s∈xs,s.length≤1048576)):=by
 have hm:maxLen=9223372036854775807:=by decide
 unfold Zbg
 rw [Zaf (n:=(1048576:Int)-(xs.length:Int)) (by omega) (by omega)]
 by_cases c:(1048576:Int)-(xs.length:Int)<0
 ·rw [decide_eq_true c];exact ⟨-1,rfl,.inl (by omega)⟩
 ·rw [decide_eq_false c,cond_false]
  have h:=Zlf xs (by omega) (fun s hs=>by have:s.length≤maxLen:=g s hs;omega) xs.length 0 (1048576-(xs.length:Int)) (by omega) (by omega) (by omega) (by simp)
  rw [show ((0:Nat):Int)=0 from rfl] at h
  rw [ZaA]
  rcases h with h | ⟨v,h,hx⟩
  ·rw [h];exact ⟨-1,rfl,.inl (by omega)⟩
  ·rw [h];exact ⟨v,rfl,.inr ⟨by omega,hx⟩⟩
theorem Zle (xs:List Str) (hn:xs.length≤1099511627776):∀k i,i+k=xs.length→Za9.l0 (k+1) (xs,(i:Int),xs.take i++List.replicate k ([]:Str))=some xs
 | 0,i,hi=>by
  rw [Za9.l0.succ];simp only [Za9.l0.step]
  rw [ZaQ (by omega)]
  simp only [cond_false,List.replicate_zero,List.append_nil,Option.some.injEq]
  exact List.take_of_length_le (by omega)
 | k+1,i,hi=>by
  have hil:i<xs.length:=by omega
  have h:=Zle xs hn k (i+1) (by omega)
  rw [Za9.l0.succ]
  simp only [Za9.l0.step,Int.toNat_natCast]
  rw [Zab _ (Zaw hil),Zab _ (Zaw (by simp;omega)),ZaP hil,cond_true,Zda (by omega)]
  have e:(List.take i xs++List.replicate (k+1) ([]:Str)).set i (xs.getD i [])=List.take (i+1) xs++List.replicate k []:=by
   have hl:(List.take i xs).length=i:=by simp;omega
   rw [List.set_append,if_neg (by omega),hl,Nat.sub_self,List.replicate_succ,List.set_cons_zero,Zan hil,List.take_succ_eq_append_getElem hil,List.append_assoc]
   rfl
  rw [e]
  exact h
theorem ZqP (xs:List Str) (hn:xs.length≤1099511627776):Za9 xs=some xs:=by
 unfold Za9
 rw [Zab _ (by simp;exact Ze5 hn),ZaA]
 have:=Zle xs hn xs.length 0 (by omega)
 simp only [List.take_zero,List.nil_append,Int.toNat_natCast] at this ⊢
 rw [show ((0:Nat):Int)=0 from rfl] at this
 rw [this];rfl
theorem ZlE (xs:List Str) (hlen:xs.length≤1048576):∀k i,i+k=xs.length→Zbk.l0 (k+1) (xs,xs,(i:Int))=some (.inl ())
 | 0,i,hi=>by
  rw [Zbk.l0.succ];simp only [Zbk.l0.step]
  rw [ZaQ (by omega),cond_false]
 | k+1,i,hi=>by
  have hil:i<xs.length:=by omega
  rw [Zbk.l0.succ];simp only [Zbk.l0.step]
  rw [ZaP hil,cond_true,Zab _ Zav,Zab _ Zav,beq_self_eq_true,Bool.not_true,cond_false,Zda (by omega)]
  exact ZlE xs hlen k (i+1) (by omega)
theorem Zn7 (xs:List Str) (hlen:xs.length≤1048576):Zbk xs xs=some true:=by
 unfold Zbk
 have:=ZlE xs hlen xs.length 0 (by omega)
 rw [show ((0:Nat):Int)=0 from rfl] at this
 simp only [bne_self_eq_false,cond_false]
 rw [ZaA,this];rfl
theorem Zjk (lines:List Str) (l:lines.length≤maxLen) (g:∀y,y∈lines→gEl [.str] y):FnExactSession lines=some true:=by
 unfold FnExactSession
 obtain ⟨v,e,hv⟩:=Zpy lines l g
 rw [e]
 simp only [Zaa]
 by_cases hn:v<0
 ·rw [decide_eq_true hn];rfl
 rw [decide_eq_false hn,cond_false]
 obtain ⟨hl,hx⟩:=hv.resolve_left hn
 rw [ZqP lines (by omega)]
 simp only [Zaa]
 rw [Zd7 lines hl hx,Zdb lines hl hx]
 simp only [Zaa,beq_self_eq_true,Bool.not_true,cond_false]
 rw [Zn7 lines hl]
 rfl
theorem Zhc (lines:List Str) (hx:∀s∈lines,s.length≤1048576):(Zbs lines).length≤30000:=by
 have h:=(Zta (lines.take 30) [] Zjm (fun s q=>hx s (List.mem_of_mem_take q))).2
 have hl:(lines.take 30).length≤30:=by rw [List.length_take];omega
 unfold Zbs
 omega
theorem Zxf (a n:Nat):∃k:Nat,(a:Int)%((n:Int)+1)=(k:Int)∧k≤n:=⟨a%(n+1),by rw [Int.natCast_emod];rfl,Nat.le_of_lt_succ (Nat.mod_lt a (Nat.succ_pos n))⟩
theorem Zn8 (xs:List Int) (h:ZlN xs) (ys:List Int) (h':ZlN ys):FnSession xs ys=some true:=by
 unfold FnSession
 by_cases c:xs.length>1048576
 ·rw [decide_eq_true (by omega)];rfl
 by_cases c':ys.length>1048576
 ·rw [decide_eq_false (by omega),cond_false,decide_eq_true (by omega)];rfl
 rw [decide_eq_false (by omega),cond_false,decide_eq_false (by omega)]
 obtain ⟨lines,hd,hl,hL⟩:=ZfN xs h (by omega)
 have hx:=Zf5 hL
 have hlen:=Zhc lines hx
 simp only [Zaa,cond_false]
 rw [hd]
 simp only [Zaa]
 rw [Zdb lines (by omega) hx,Zd7 lines (by omega) hx]
 simp only [Zaa,beq_self_eq_true,Bool.not_true,cond_false]
 rw [Zaf (by omega) (by omega),ZaG (by omega)]
 obtain ⟨k,hk,hkl⟩:∃k:Nat,(ys.length:Int)%((lines.length:Int)+1)=(k:Int)∧k≤lines.length:=Zxf _ _
 rw [hk,Zab _ (by simp<;>omega),Zab _ (by simp<;>omega),Int.toNat_natCast,List.drop_zero]
 obtain ⟨r,hr,hr30⟩:=Zs6 lines k
 have hxk:∀s∈lines.take k,s.length≤1048576:=fun s q=>hx s (List.mem_of_mem_take q)
 rw [Zdb (lines.take k) (by rw [List.length_take];omega) hxk]
 simp only [Zaa,Int.toNat_natCast]
 rw [hr] at hlen ⊢
 rw [List.length_append] at hlen ⊢
 rw [decide_eq_true (by omega),cond_true,Zab _ (by simp<;>omega),List.take_left' rfl,beq_self_eq_true,cond_true]
 by_cases k30:k<30
 ·rw [decide_eq_true (by omega)];rfl
 ·rw [decide_eq_false (by omega),cond_false,hr30 (by omega),List.append_nil,beq_self_eq_true]
  rfl
theorem Zlc (xs:List Int) (h:ZlN xs):FnSessionZip xs=some true:=by
 unfold FnSessionZip
 by_cases c:xs.length>1048576
 ·rw [decide_eq_true (by omega)];rfl
 rw [decide_eq_false (by omega),cond_false]
 obtain ⟨lines,hd,hl,hL⟩:=ZfN xs h (by omega)
 have hx:=Zf5 hL
 have hlen:=Zhc lines hx
 rw [hd]
 simp only [Zaa]
 rw [Zdb lines (by omega) hx,Zd7 lines (by omega) hx]
 simp only [Zaa,beq_self_eq_true,Bool.not_true,cond_false]
 by_cases h25:lines.length>25
 ·rw [decide_eq_true (by omega)];rfl
 rw [decide_eq_false (by omega),cond_false,Zad (by simp;omega),Zad (by simp;omega),List.nil_append]
 have hx3:∀s∈lines++[Zcm,Zfq,Zfm],s.length≤1048576:=fun s q=>by
  rcases List.mem_append.1 q with q | q
  ·exact hx s q
  ·have:∀s∈[Zcm,Zfq,Zfm],s.length≤40:=by decide
   have:=this s q;omega
 have hs:=Zdb (lines++[Zcm,Zfq,Zfm]) (by simp;omega) hx3
 unfold Zcm Zfq Zfm at hs
 rw [hs]
 simp only [Zaa]
 have hz:=ZwA hL (by omega)
 unfold Zcm Zfq Zfm at hz
 rcases hz with e | e
 ·rw [e,Zad (by simp;omega),beq_self_eq_true];rfl
 ·rw [e,Zad (by simp;omega),Zad (by simp;omega),beq_self_eq_true]
  cases Zbs lines++[110,111,110,101,10,102,117,108,108,10,110,111,110,101,10]==Zbs lines++[110,111,110,101,10,102,105,110,101,10,115,111,109,101,32,116,101,120,116,10]<;>rfl
theorem Zkd (xs:List Int) (h:ZlN xs):FnSessionLong xs=some true:=by
 unfold FnSessionLong
 by_cases c:xs.length>1048576
 ·rw [decide_eq_true (by omega)];rfl
 rw [decide_eq_false (by omega),cond_false]
 obtain ⟨lines,hd,hl,hL⟩:=ZfN xs h (by omega)
 have hx:=Zf5 hL
 have hlen:=Zhc lines hx
 rw [hd]
 simp only [Zaa]
 rw [Zdb lines (by omega) hx,Zd7 lines (by omega) hx]
 simp only [Zaa,beq_self_eq_true,Bool.not_true,cond_false]
 by_cases h26:lines.length≥26
 ·rw [decide_eq_true (by omega)];rfl
 rw [decide_eq_false (by omega),cond_false,Zad (by simp;omega),Zad (by simp;omega),List.nil_append]
 have hx1:∀s∈lines++[ZkJ],s.length≤1048576:=fun s q=>by
  rcases List.mem_append.1 q with q | q
  ·exact hx s q
  ·have:∀s∈[ZkJ],s.length≤40:=by decide
   have:=this s q;omega
 have hx3:∀s∈lines++[ZsK,Zcm,ZkJ],s.length≤1048576:=fun s q=>by
  rcases List.mem_append.1 q with q | q
  ·exact hx s q
  ·have:∀s∈[ZsK,Zcm,ZkJ],s.length≤40:=by decide
   have:=this s q;omega
 obtain ⟨d,hdl,e1,e2⟩:=ZvP hL (by omega)
 have s1:=Zdb (lines++[ZkJ]) (by simp;omega) hx1
 have s3:=Zdb (lines++[ZsK,Zcm,ZkJ]) (by simp;omega) hx3
 rw [e1] at s1
 unfold ZkJ at s1 s3 e2
 unfold ZsK Zcm at s3 e2
 rw [s1]
 simp only [Zaa]
 rw [Zad (by simp;omega),Zad (by simp;omega),s3]
 simp only [Zaa,Int.toNat_natCast]
 rw [List.length_append,List.drop_left' rfl,Zab _ (by simp;omega)]
 rcases e2 with e | e
 ·rw [e,Zad (by simp;omega),Zad (by simp;omega),beq_self_eq_true];rfl
 ·rw [e,Zad (by simp;omega),Zad (by simp;omega),Zad (by simp;omega),Zad (by simp;omega),beq_self_eq_true]
  cases Zbs lines++[102,117,108,108,10,110,111,110,101,10]++d==Zbs lines++[102,105,110,101,10,102,105,110,101,10]++d<;>rfl
theorem Zkc (xs:List Int) (h:ZlN xs) (ys:List Int) (h':ZlN ys):FnSessionLook xs ys=some true:=by
 unfold FnSessionLook
 by_cases c:xs.length>1048576
 ·rw [decide_eq_true (by omega)];rfl
 by_cases c':ys.length>1048576
 ·rw [decide_eq_false (by omega),cond_false,decide_eq_true (by omega)];rfl
 rw [decide_eq_false (by omega),cond_false,decide_eq_false (by omega)]
 obtain ⟨lines,hd,hl,hL⟩:=ZfN xs h (by omega)
 have hx:=Zf5 hL
 have hlen:=Zhc lines hx
 simp only [Zaa,cond_false]
 rw [hd]
 simp only [Zaa]
 rw [Zdb lines (by omega) hx,Zd7 lines (by omega) hx]
 simp only [Zaa,beq_self_eq_true,Bool.not_true,cond_false]
 by_cases h28:lines.length≥28
 ·rw [decide_eq_true (by omega)];rfl
 rw [decide_eq_false (by omega),cond_false,Zaf (by omega) (by omega),ZaG (by omega)]
 obtain ⟨k,hk,hkl⟩:∃k:Nat,(ys.length:Int)%((lines.length:Int)+1)=(k:Int)∧k≤lines.length:=Zxf _ _
 rw [hk,Zab _ (by simp<;>omega),Zab _ (by simp<;>omega),Int.toNat_natCast,List.drop_zero]
 have hsplit:lines.take k++lines.drop k=lines:=List.take_append_drop ..
 have hll:(lines.take k).length+(lines.drop k).length=lines.length:=by rw [←List.length_append,hsplit]
 obtain ⟨r,e1,e2⟩:=ZrB (a:=lines.take k) (b:=lines.drop k) (fun s q=>hL s (List.mem_of_mem_take q)) (by omega)
 rw [hsplit] at e1
 have hxk:∀s∈lines.take k,s.length≤1048576:=fun s q=>hx s (List.mem_of_mem_take q)
 have hx4:∀s∈lines.take k++[Ztm,Ze4]++lines.drop k,s.length≤1048576:=fun s q=>by
  rcases List.mem_append.1 q with q | q
  ·rcases List.mem_append.1 q with q | q
   ·exact hxk s q
   ·have:∀s∈[Ztm,Ze4],s.length≤40:=by decide
    have:=this s q;omega
  ·exact hx s (List.mem_of_mem_drop q)
 have s4:=Zdb (lines.take k++[Ztm,Ze4]++lines.drop k) (by simp;omega) hx4
 rw [e2] at s4
 unfold Ztm Ze4 at s4
 rw [Zdb (lines.take k) (by rw [List.length_take];omega) hxk]
 simp only [Zaa,Int.toNat_natCast]
 rw [List.nil_append,show (lines.drop k).take (lines.length-k)=lines.drop k from List.take_of_length_le (by rw [List.length_drop];omega)]
 rw [e1] at hlen ⊢
 rw [List.length_append] at hlen
 rw [Zab _ (by simp;omega),Zad (by simp;omega),Zad (by simp;omega),Zab _ (by simp;omega),Zad (by simp;omega),s4]
 simp only [Zaa]
 rw [Zad (by simp;omega),Zab _ (by simp;omega),List.drop_left' rfl,Zad (by simp;omega),beq_self_eq_true]
end Ev
end
