/- Plain laws about what the functions compute. Conditions: as stated. -/
import Derived.Test.YtadeffpcedlalaaGreatDoorBGB2
set_option linter.unusedVariables false
set_option linter.unusedSimpArgs false
section
namespace Ev
open Go
theorem Zhl {α ρ:Type} (a:α) (k:α→Option ρ) (y:Option ρ):Zh7 (some a) k y=k a:=Eq.trans rfl rfl
theorem Zu4 {α:Type} {P:List α→Prop} (h0:P []) (h1:∀l x,P l→P (l++[x])) (l:List α):P l:=by
 have:∀r:List α,P r.reverse:=fun r=>by
  induction r with
  | nil=>exact h0
  | cons x r ih=>rw [List.reverse_cons];exact h1 _ _ ih
 have h:=this l.reverse
 rwa [List.reverse_reverse] at h
abbrev dec (u:Nat):Str:=Lib.decDigits u
theorem ZfH {u:Nat} (h:u<10):dec u=[UInt8.ofNat (48+u)]:=by unfold dec;rw [Lib.decDigits,dif_pos h]
theorem Zpi {u:Nat} (h:¬u<10):dec u=dec (u/10)++[UInt8.ofNat (48+u%10)]:=by unfold dec;rw [Lib.decDigits,dif_neg h]
theorem Zph:∀(k u:Nat),u<10^(k+1)→1≤(dec u).length∧(dec u).length≤k+1
 | 0,u,h=>by rw [ZfH (by simpa using h)];simp
 | k+1,u,h=>by
  by_cases c:u<10
  ·rw [ZfH c];simp
  ·have:=Zph k (u/10) (by rw [Nat.pow_succ] at h;omega)
   rw [Zpi c,List.length_append,List.length_cons,List.length_nil];omega
theorem Zpn (d:Nat) (h:d<10):Zbv [IntKind.wrap .u8 (w64 (48+(d:Int)))]=[UInt8.ofNat (48+d)]:=by
 rw [Zaf (by omega) (by omega),show 48+(d:Int)=((48+d:Nat):Int) by omega,wrap_u8 _ (by omega)]
 rfl
theorem ZqI:∀(k u:Nat),u<10^(k+1)→u<9223372036854775808→k≤100→ZlZ (k+1) (u:Int)=some (dec u)
 | 0,u,h,hb,hk=>by
  have h10:u<10:=by simpa using h
  rw [ZlZ,decide_eq_false (by omega),cond_false,decide_eq_false (by omega),cond_false,decide_eq_true (by omega),cond_true,Zpn u h10,ZfH h10]
 | k+1,u,h,hb,hk=>by
  rw [ZlZ,decide_eq_false (by omega),cond_false,decide_eq_false (by omega),cond_false]
  by_cases c:u<10
  ·rw [decide_eq_true (by omega),cond_true,Zpn u c,ZfH c]
  ·have hl:=Zph k (u/10) (by rw [Nat.pow_succ] at h;omega)
   rw [decide_eq_false (by omega),cond_false,Zaw (by omega),Zaf (n:=(u:Int)/10) (by omega) (by omega),Zaz (by omega),show (u:Int)/10=((u/10:Nat):Int) by omega,show (u:Int)%10=((u%10:Nat):Int) by omega,
    ZqI k (u/10) (by rw [Nat.pow_succ] at h;omega) (by omega) (by omega),Zpn _ (by omega)]
   simp only [Zaa]
   rw [Zad (by simp;omega),Zpi c]
theorem ZxA (u:Nat) (h:u<9223372036854775808):ZeT (u:Int)=some (dec u):=ZqI 29 u (by omega) h (by omega)
theorem Zta (u:Nat) (h:u<9223372036854775808):itoa (u:Int)=some (dec u):=by
 unfold itoa ZyO
 rw [Zab _ (by simp;omega)]
 unfold Lib.itoa
 rw [if_neg (by omega),Int.toNat_natCast]
def isD (c:UInt8):Bool:=decide (48≤c.toNat∧c.toNat≤57)
def Zor (n:Nat) (s:Str):Nat:=s.foldl (fun n c=>n*10+(c.toNat-48)) n
def numM (s:Str):Int:=if s.all isD=true∧s.length≤6∧s≠[]∧¬(1<s.length∧s.getD 0 0=48) then (Zor 0 s:Int) else -1
theorem sub_u8 (c:UInt8) (h:48≤c.toNat):w64 (IntKind.wrap .u8 ((c.toNat:Int)-48))=((c.toNat-48:Nat):Int):=by
 have:=c.toNat_lt
 rw [show (c.toNat:Int)-48=((c.toNat-48:Nat):Int) by omega,wrap_u8 _ (by omega),Zaf (by omega) (by omega)]
theorem Zs5 (s:Str) (hs:s.length≤1048576):∀(j i n:Nat),i+j=s.length→i≤6→n<10^i→
  ZeF.l0 (j+1) (s,(n:Int),(i:Int))=some (if (s.drop i).all isD=true∧s.length≤6 then .inl (s,(Zor n (s.drop i):Int)) else .inr (-1))
 | 0,i,n,h,h6,hn=>by
  rw [ZeF.l0.succ];simp only [ZeF.l0.step]
  rw [ZaZ (by omega),List.drop_eq_nil_of_le (by omega),if_pos ⟨rfl,by omega⟩];rfl
 | j+1,i,n,h,h6,hn=>by
  have hi:i<s.length:=by omega
  have hg:s.getD i 0=s[i]:=Zal hi
  have hd:s.drop i=s[i]::s.drop (i+1):=List.drop_eq_getElem_cons hi
  rw [ZeF.l0.succ];simp only [ZeF.l0.step]
  rw [ZaY hi,cond_true,Zab _ ZaB,Zab _ ZaB,Zab _ ZaB,Int.toNat_natCast,hg,hd,List.all_cons]
  by_cases c:48≤(s[i]).toNat∧(s[i]).toNat≤57
  ·rw [decide_eq_false (by omega),decide_eq_false (by omega)]
   simp only [cond_false,Zaa]
   have hD:isD s[i]=true:=by unfold isD;rw [decide_eq_true c]
   rw [hD,Bool.true_and]
   by_cases c6:6≤i
   ·rw [decide_eq_true (by omega),cond_true,if_neg (by omega)];rfl
   ·have hp:10^i≤10^5:=Nat.pow_le_pow_right (by omega) (by omega)
    have h5:(10:Nat)^5=100000:=by decide
    rw [decide_eq_false (by omega),cond_false,sub_u8 _ c.1,Zaf (n:=(n:Int)*10) (by omega) (by omega),Zaf (by omega) (by omega),Zaf (by omega) (by omega),
     show (n:Int)*10+((s[i].toNat-48:Nat):Int)=((n*10+(s[i].toNat-48):Nat):Int) by omega,show (i:Int)+1=((i+1:Nat):Int) by omega,
     Zs5 s hs j (i+1) (n*10+(s[i].toNat-48)) (by omega) (by omega) (by rw [Nat.pow_succ];omega)]
    rfl
  ·have hD:isD s[i]=false:=by unfold isD;rw [decide_eq_false c]
   rw [hD,Bool.false_and,if_neg (by simp)]
   by_cases c1:(s[i]).toNat<48
   ·rw [decide_eq_true (by omega)];rfl
   ·rw [decide_eq_false (by omega),decide_eq_true (by omega)];rfl
theorem Zxz (s:Str) (hs:s.length≤1048576):ZeF s=some (numM s):=by
 have h:=Zs5 s hs s.length 0 0 (by omega) (by omega) (by simp)
 rw [show ((0:Nat):Int)=0 from rfl,List.drop_zero] at h
 unfold ZeF numM
 rw [ZaJ,h]
 simp only [Zaa]
 by_cases c:s.all isD=true∧s.length≤6
 ·rw [if_pos c]
  dsimp only
  by_cases c0:s=[]
  ·subst c0;rfl
  ·have hl:0<s.length:=List.length_pos_iff.2 c0
   rw [show ((s.length:Int)==0)=false by simp;omega,cond_false]
   by_cases c1:1<s.length
   ·rw [decide_eq_true (by omega),cond_true,Zab _ (by simp;omega)]
    simp only [Zaa]
    by_cases cz:s.getD 0 0=48
    ·rw [cz,if_neg (fun q=>q.2.2.2 ⟨c1,rfl⟩)];rfl
    ·have:(((s.getD 0 0).toNat:Int)==48)=false:=by
      apply beq_false_of_ne
      intro q
      apply cz
      apply UInt8.toNat_inj.1
      have:(48:UInt8).toNat=48:=rfl
      omega
     rw [this,cond_false,if_pos ⟨c.1,c.2,c0,fun q=>cz q.2⟩]
   ·rw [decide_eq_false (by omega),cond_false]
    simp only [Zaa,cond_false]
    rw [if_pos ⟨c.1,c.2,c0,fun q=>c1 q.1⟩]
 ·rw [if_neg c,if_neg (fun q=>c ⟨q.1,q.2.1⟩)]
theorem ZpB (s:Str) (c:UInt8) (n:Nat):Zor n (s++[c])=Zor n s*10+(c.toNat-48):=by unfold Zor;rw [List.foldl_append];rfl
theorem ZuS:∀(s:Str) (n:Nat),n≤Zor n s
 | [],n=>Nat.le_refl _
 | c::r,n=>by
  have:=ZuS r (n*10+(c.toNat-48))
  have e:Zor n (c::r)=Zor (n*10+(c.toNat-48)) r:=rfl
  rw [e];omega
theorem ZiL (c:UInt8) (h:isD c=true):UInt8.ofNat (48+(c.toNat-48))=c:=by
 unfold isD at h
 rw [decide_eq_true_eq] at h
 rw [show 48+(c.toNat-48)=c.toNat by omega,UInt8.ofNat_toNat]
theorem ZvX (d:Nat) (h:d<10):isD (UInt8.ofNat (48+d))=true∧(UInt8.ofNat (48+d)).toNat=48+d:=by
 have:(UInt8.ofNat (48+d)).toNat=48+d:=by rw [UInt8.toNat_ofNat'];omega
 exact ⟨by unfold isD;rw [this,decide_eq_true (by omega)],this⟩
theorem Zuz (s:Str):s.all isD=true→s≠[]→(1<s.length→s.getD 0 0≠48)→dec (Zor 0 s)=s:=by
 refine Zu4 (P:=fun s:Str=>s.all isD=true→s≠[]→(1<s.length→s.getD 0 0≠48)→dec (Zor 0 s)=s) (fun _ h=>absurd rfl h) (fun s c ih h1 h2 h3=>?_) s
 rw [List.all_append,Bool.and_eq_true] at h1
 have hc:isD c=true:=by simpa using h1.2
 have hcr:=hc
 unfold isD at hcr
 rw [decide_eq_true_eq] at hcr
 rw [ZpB]
 cases s with
 | nil=>
  have e:Zor 0 []=0:=rfl
  rw [e,Nat.zero_mul,Nat.zero_add,ZfH (by omega),ZiL c hc];rfl
 | cons a r=>
  have ha:a≠48:=by
   have:=h3 (by simp)
   simpa using this
  have h1a:=h1.1
  rw [List.all_cons,Bool.and_eq_true] at h1a
  have har:=h1a.1
  unfold isD at har
  rw [decide_eq_true_eq] at har
  have hpos:1≤Zor 0 (a::r):=by
   have e:Zor 0 (a::r)=Zor (0*10+(a.toNat-48)) r:=rfl
   have:=ZuS r (0*10+(a.toNat-48))
   have hne:a.toNat≠48:=fun q=>ha (UInt8.toNat_inj.1 q)
   rw [e];omega
  have ih':=ih h1.1 (by simp) (fun _=>by simpa using ha)
  rw [Zpi (by omega),show (Zor 0 (a::r)*10+(c.toNat-48))/10=Zor 0 (a::r) by omega,show (Zor 0 (a::r)*10+(c.toNat-48))%10=c.toNat-48 by omega,ih',ZiL c hc]
theorem Zhy (u:Nat):(dec u).all isD=true∧dec u≠[]∧(1≤u→(dec u).getD 0 0≠48)∧Zor 0 (dec u)=u:=by
 induction u using Nat.strongRecOn with
 | _ u ih=>
  by_cases h:u<10
  ·obtain ⟨q1,q2⟩:=ZvX u h
   rw [ZfH h]
   refine ⟨by rw [List.all_cons,q1];rfl,by simp,fun h1=>?_,?_⟩
   ·intro q
    have:(UInt8.ofNat (48+u)).toNat=(48:UInt8).toNat:=congrArg UInt8.toNat (by simpa using q)
    rw [q2] at this
    have h48:(48:UInt8).toNat=48:=rfl
    omega
   ·show 0*10+((UInt8.ofNat (48+u)).toNat-48)=u
    rw [q2];omega
  ·obtain ⟨i1,i2,i3,i4⟩:=ih (u/10) (by omega)
   obtain ⟨q1,q2⟩:=ZvX (u%10) (by omega)
   rw [Zpi h]
   refine ⟨by rw [List.all_append,i1,List.all_cons,q1];rfl,by simp,fun _=>?_,?_⟩
   ·have:=i3 (by omega)
    cases hd:dec (u/10) with
    | nil=>exact absurd hd i2
    | cons a r=>rw [hd] at this;simpa using this
   ·rw [ZpB,i4,q2];omega
theorem Zxi (s:Str) (n:Nat) (hn:n≤999999):(numM s==(n:Int))=(s==dec n):=by
 rw [Bool.eq_iff_iff,beq_iff_eq,beq_iff_eq]
 unfold numM
 constructor
 ·intro q
  split at q
  ·rename_i hc
   obtain ⟨h1,h2,h3,h4⟩:=hc
   have e:Zor 0 s=n:=by omega
   rw [←e]
   exact (Zuz s h1 h3 (fun hl hz=>h4 ⟨hl,hz⟩)).symm
  ·omega
 ·rintro rfl
  obtain ⟨h1,h2,h3,h4⟩:=Zhy n
  have hl:=Zph 5 n (by omega)
  have hq:¬(1<(dec n).length∧(dec n).getD 0 0=48):=fun q=>by
   by_cases h10:n<10
   ·have q1:=q.1
    rw [ZfH h10,List.length_singleton] at q1;omega
   ·exact h3 (by omega) q.2
  rw [if_pos ⟨h1,by omega,h2,hq⟩,h4]
theorem ZxG (s:Str) (b:UInt8) (c:Int) (hb:c.toNat.toUInt8=b):idxB s c=match s.findIdx? (· == b) with | some i=>(i:Int) | none=>-1:=by
 unfold idxB firstIdx
 have h:=Zgd (· == b) s 0
 have e:((List.range (⟨s.toArray⟩:ByteArray).size).find? fun i=>(⟨s.toArray⟩:ByteArray)[i]! == c.toNat.toUInt8)=s.findIdx? (· == b):=by
  rw [List.range_eq_range']
  have hsz:(⟨s.toArray⟩:ByteArray).size=s.length:=by simp [ByteArray.size]
  rw [hsz]
  rw [show (s.findIdx? (· == b))=(s.findIdx? (· == b)).map (· + 0) by simp,←h]
  apply ZhO
  intro i hi
  rw [List.mem_range'] at hi
  obtain ⟨j,hj,rfl⟩:=hi
  have hj':j<s.length:=hj
  rw [show 0+1*j=j by omega]
  have:(⟨s.toArray⟩:ByteArray)[j]! = s.getD j 0:=by
   have hj2:j<(⟨s.toArray⟩:ByteArray).size:=by rw [hsz];exact hj'
   rw [getElem!_pos (⟨s.toArray⟩:ByteArray) j hj2]
   show s.toArray[j]=s.getD j 0
   simp [List.getD,hj']
  rw [this,hb];rfl
 rw [e]
 cases s.findIdx? (· == b)<;>rfl
def ZwN (b:UInt8):Nat→Str→List Str
 | 0,s=>[s]
 | m+1,s=>match s.findIdx? (· == b) with
  | none=>[s]
  | some i=>s.take i::ZwN b m (s.drop (i+1))
theorem Zq4 {s:Str} {b:UInt8} {i:Nat} (h:i<s.length):(s.drop i).findIdx? (· == b)=if s[i]=b then some 0 else ((s.drop (i+1)).findIdx? (· == b)).map (· + 1):=by
 rw [List.drop_eq_getElem_cons h,List.findIdx?_cons]
 by_cases c:s[i]=b
 ·rw [if_pos c,c,beq_self_eq_true,if_pos rfl]
 ·rw [if_neg c,beq_false_of_ne c,if_neg (by simp)]
theorem ZxZ (x b:UInt8):((x.toNat:Int)==(b.toNat:Int))=decide (x=b):=u8_eq x b
theorem Zl0 (s:Str) (hs:s.length≤1048576) (b:UInt8) (m:Nat) (hm:m≤1000):∀(j i f:Nat) (out:List Str),i+j=s.length→f≤i→out.length≤m→
  ∃f' out',Zdk.l0 (j+1) (s,(b.toNat:Int),(m:Int),(f:Int),(i:Int),out)=some (s,((f':Nat):Int),out')∧f'≤s.length∧out'.length≤m∧
   out'++[s.drop f']=out++(if out.length<m then (match (s.drop i).findIdx? (· == b) with
    | none=>[s.drop f]
    | some k=>(s.take (i+k)).drop f::ZwN b (m-out.length-1) (s.drop (i+k+1))) else [s.drop f])
 | 0,i,f,out,h,hf,ho=>by
  rw [Zdk.l0.succ];simp only [Zdk.l0.step]
  rw [ZaZ (by omega)]
  refine ⟨f,out,rfl,by omega,ho,?_⟩
  rw [List.drop_eq_nil_of_le (show s.length≤i by omega)]
  simp
 | j+1,i,f,out,h,hf,ho=>by
  have hi:i<s.length:=by omega
  have hg:s.getD i 0=s[i]:=Zal hi
  rw [Zdk.l0.succ];simp only [Zdk.l0.step]
  rw [ZaY hi,cond_true]
  simp only [Zaa]
  by_cases c:out.length<m
  ·rw [decide_eq_true (by omega),cond_true,Zab _ ZaB,Int.toNat_natCast,hg,ZxZ,if_pos c,Zq4 hi]
   by_cases cb:s[i]=b
   ·rw [decide_eq_true cb,cond_true,if_pos cb,Zab _ (by simp;omega),Zab _ (by simp;omega),Zad (by simp;omega),Int.toNat_natCast,Zaf (by omega) (by omega),show (i:Int)+1=((i+1:Nat):Int) by omega]
    obtain ⟨f',out',g1,g2,g3,g4⟩:=Zl0 s hs b m hm j (i+1) (i+1) (out++[(s.take i).drop f]) (by omega) (by omega) (by simp;omega)
    refine ⟨f',out',g1,g2,g3,?_⟩
    rw [g4]
    simp only [List.length_append,List.length_cons,List.length_nil,Nat.add_zero,List.append_assoc,List.cons_append,List.nil_append]
    congr 2
    by_cases c2:out.length+1<m
    ·rw [show out.length+(0+1)=out.length+1 by omega,if_pos c2]
     obtain ⟨q,hq⟩:∃q,m-out.length-1=q+1:=⟨m-out.length-2,by omega⟩
     rw [hq,ZwN,show m-(out.length+1)-1=q by omega]
     cases (s.drop (i+1)).findIdx? (· == b) with
     | none=>rfl
     | some k=>
      dsimp only
      rw [List.drop_drop,List.drop_take,show i+1+k-(i+1)=k by omega,show i+1+k+1=i+1+(k+1) by omega]
    ·rw [show out.length+(0+1)=out.length+1 by omega,if_neg c2,show m-out.length-1=0 by omega,ZwN]
   ·rw [decide_eq_false cb,cond_false,if_neg cb,Zaf (by omega) (by omega),show (i:Int)+1=((i+1:Nat):Int) by omega]
    obtain ⟨f',out',g1,g2,g3,g4⟩:=Zl0 s hs b m hm j (i+1) f out (by omega) (by omega) ho
    refine ⟨f',out',g1,g2,g3,?_⟩
    rw [g4,if_pos c]
    cases (s.drop (i+1)).findIdx? (· == b) with
    | none=>rfl
    | some k=>
     simp only [Option.map_some]
     rw [show i+1+k=i+(k+1) by omega]
  ·rw [decide_eq_false (by omega),cond_false]
   exact ⟨f,out,rfl,by omega,ho,by rw [if_neg c]⟩
theorem ZvQ (s:Str) (hs:s.length≤1048576) (b:UInt8) (m:Nat) (hm:m≤1000):Zdk s (b.toNat:Int) (m:Int)=some (ZwN b m s):=by
 obtain ⟨f',out',h1,h2,h3,h4⟩:=Zl0 s hs b m hm s.length 0 0 [] (by omega) (by omega) (by simp)
 rw [show ((0:Nat):Int)=0 from rfl] at h1
 unfold Zdk
 rw [ZaJ,h1]
 simp only [Zaa,Int.toNat_natCast]
 rw [Zab _ (Zh9 h2),Zab _ (Ze2 (by simp;omega)),h4]
 congr 1
 cases m with
 | zero=>rfl
 | succ m=>
  rw [if_pos (by simp),ZwN,List.drop_zero,List.nil_append]
  cases s.findIdx? (· == b) with
  | none=>rfl
  | some k=>simp
def ZmQ (b:UInt8) (s:Str):Str×Str×Bool:=match s.findIdx? (· == b) with
 | none=>(s,[],false)
 | some i=>(s.take i,s.drop (i+1),true)
theorem Zum (s:Str):ZdD s=some (match s.findIdx? (· == 10) with | some i=>(i:Int) | none=>-1):=by
 unfold ZdD
 simp only [Zaa]
 by_cases c:[10]=s
 ·subst c;rfl
 ·rw [beq_false_of_ne c,cond_false]
  unfold Zbi ZbT
  simp only [Zaa]
  rw [ZxG s 10 10 rfl]
theorem Zut {s:Str} {b:UInt8} {i:Nat} (h:s.findIdx? (· == b)=some i):i<s.length:=(List.findIdx?_eq_some_iff_getElem.1 h).1
theorem ZxU (s:Str) (hs:s.length≤1048576):Zje s=some (ZmQ 10 s):=by
 unfold Zje Ze7 ZmQ
 rw [Zum,Zhl]
 cases h:s.findIdx? (· == 10) with
 | none=>rfl
 | some i=>
  have:=Zut h
  dsimp only
  rw [decide_eq_true (by omega),cond_true,Zab _ (by simp;omega),Zaf (by omega) (by omega),Zab _ (by simp;omega),Zhl,show ((i:Int)+1).toNat=i+1 by omega,Int.toNat_natCast]
end Ev
end
section
namespace Ev
open Go
theorem Zxu {s:Str} {e:Fil} {n:Nat} (h:Zgs s=some (e,n)):n≤773:=by
 unfold Zgs at h
 split at h
 ·cases h
 ·split at h
  ·cases h
  ·rename_i h30 hbig
   split at h
   ·cases h
   ·rename_i t ht
    split at h
    ·rename_i hc
     obtain ⟨rfl,rfl⟩:=Prod.mk.inj (Option.some.inj h)
     have h1:=ZcY hc.1
     rw [List.length_take,List.length_drop] at h1
     have h2:((s.drop (30+leN s 26 2)).take (leN s 18 4)).length=leN s 18 4:=by rw [List.length_take,List.length_drop];omega
     have h3:leN s 18 4≤700:=by
      unfold ZuT at ht
      split at ht
      ·have:=Option.some.inj ht
       have h4:=hc.2.2.1
       rw [←this,h2] at h4
       omega
      ·split at ht
       ·split at ht
        ·rename_i hq
         unfold ZgA at hq
         split at hq
         ·exact absurd hq.1 (by simp)
         ·rw [h2] at *;omega
        ·cases ht
       ·cases ht
     omega
    ·cases h
theorem Zns:∀(k:Nat) (s:Str),∀l∈(Za7 k s).2.1,l.length≤773
 | 0,s,l,h=>by simp [Za7] at h
 | k+1,s,l,h=>by
  rw [Za7] at h
  cases hm:Zgs s with
  | none=>rw [hm] at h;simp at h
  | some p=>
   obtain ⟨e,n⟩:=p
   rw [hm] at h
   dsimp only at h
   rcases List.mem_cons.1 h with rfl | h
   ·have:=Zxu hm
    rw [List.length_take];omega
   ·exact Zns k (s.drop n) l h
theorem Zr8 (ls:List Str):ls.flatten.length=Zfb ls:=by unfold Zfb;rw [List.length_flatten]
theorem Zv4 (ls:List Str) (h:∀l∈ls,Zm6 l∧l.length≤773):∀a,(Zca ls a).length≤789*ls.length:=by
 induction ls with
 | nil=>intro a;simp [Zca]
 | cons l r ih=>
  intro a
  have h1:=h l (List.mem_cons_self ..)
  have h2:=Zf0 l a h1.1
  have h3:=h1.1.1
  have h4:=ih (fun x hx=>h x (List.mem_cons_of_mem _ hx)) (a+l.length)
  simp only [Zca,List.length_append,List.length_cons]
  omega
theorem ZxF {s:Str} (hs:s.length≤1048576) (h:ZdX s=true):s.length≤10000:=by
 unfold ZdX Zev at h
 split at h
 ·rename_i hc
  obtain ⟨_,q2,_,q4⟩:=ZiH 6 s hs
  have hl:=Zns 6 s
  have e:=congrArg List.length (Znr 6 s)
  rw [hc.2,List.length_append,Zr8] at e
  have h1:=Zv4 (Za7 6 s).2.1 (fun l hx=>⟨q4 l hx,hl l hx⟩) 0
  have h2:Zfb (Za7 6 s).2.1≤773*(Za7 6 s).2.1.length:=by
   unfold Zfb
   exact Zfo _ 773 _ hl
  unfold Zd5 at e
  rw [List.length_append,ZfG] at e
  omega
 ·cases h
theorem Zl3:ZdX []=false:=by
 cases h:ZdX [] with
 | false=>rfl
 | true=>
  unfold ZdX Zev at h
  split at h
  ·rename_i hc
   have hh:Za7 6 []=([],[],[]):=by
    rw [Za7,show Zgs []=none from by unfold Zgs;rw [if_pos (by simp)]]
   rw [hh] at hc
   have e:=congrArg List.length hc.2
   unfold Zd5 at e
   rw [List.length_append,ZfG] at e
   simp at e
  ·cases h
theorem Zxk (a b:Int):ZkC a b=min a b:=by
 unfold ZkC
 by_cases h:b<a
 ·rw [if_pos h];omega
 ·rw [if_neg h];omega
theorem Zxo (a b:Int):ZnC a b=max a b:=by
 unfold ZnC
 by_cases h:a<b
 ·rw [if_pos h];omega
 ·rw [if_neg h];omega
def ZfJ (text:Str):Str:=dec text.length++[10]++text
def Zek (dt dl text:Str) (bytes:Int):Str×Str:=if ZhW dt dl=true∧ZdX text=true then (dt,(ZfJ text).take (min (max bytes 0) ((ZfJ text).length:Int)).toNat) else ([],[])
theorem ZiR (text:Str) (h:text.length≤1048576):(dec text.length).length≤7∧(ZfJ text).length=(dec text.length).length+1+text.length:=by
 refine ⟨(Zph 6 text.length (by omega)).2,?_⟩
 unfold ZfJ
 simp only [List.length_append,List.length_cons,List.length_nil]
theorem ZgX (dt dl text:Str) (bytes:Int) (h1:dt.length≤1048576) (h2:text.length≤1048576):Zck dt dl text bytes=some (Zek dt dl text bytes):=by
 unfold Zck Zek
 rw [Zjc dt dl h1,ZhT text h2]
 simp only [Zaa]
 obtain ⟨hl,hlen⟩:=ZiR text h2
 cases hd:ZhW dt dl with
 | false=>rw [if_neg (by simp)];rfl
 | true=>
  simp only [Bool.not_true,cond_false,Zaa]
  cases hz:ZdX text with
  | false=>rw [if_neg (by simp)];rfl
  | true=>
   rw [if_pos (by simp)]
   simp only [Bool.not_true,cond_false]
   rw [Zta _ (by omega)]
   simp only [Zaa]
   rw [Zad (by simp;omega),Zad (by simp;omega)]
   show need (decide (0≤ZkC (ZnC bytes 0) ((ZfJ text).length:Int))&&decide (ZkC (ZnC bytes 0) ((ZfJ text).length:Int)≤((ZfJ text).length:Int))) (some (dt,(ZfJ text).take (ZkC (ZnC bytes 0) ((ZfJ text).length:Int)).toNat))=_
   rw [Zxk,Zxo,Zab _ (by simp only [Bool.and_eq_true,decide_eq_true_eq];omega)]
theorem Zfv (dt dl text:Str) (bytes:Int) (h1:dt.length≤1048576) (h2:text.length≤1048576):ZaG dt dl text bytes=some (Zek dt dl text bytes):=by
 unfold ZaG Zek
 rw [ZgL dt dl h1,ZiU text h2]
 simp only [Zaa]
 obtain ⟨hl,hlen⟩:=ZiR text h2
 cases hd:ZhW dt dl with
 | false=>rw [if_neg (by simp)];rfl
 | true=>
  simp only [Bool.not_true,cond_false,Zaa]
  cases hz:ZdX text with
  | false=>rw [if_neg (by simp)];rfl
  | true=>
   rw [if_pos (by simp)]
   simp only [Bool.not_true,cond_false]
   have hlog:ZiV text=some (ZfJ text):=by
    unfold ZiV ZfJ
    rw [ZxA _ (by omega)]
    simp only [Zaa]
    rw [Zad (by simp;omega),Zad (by simp;omega)]
   rw [hlog]
   simp only [Zaa]
   by_cases c0:bytes<0
   ·rw [decide_eq_true c0,cond_true]
    simp only [Zaa]
    rw [decide_eq_false (by omega),cond_false,Zab _ (by simp),show (min (max bytes 0) ((ZfJ text).length:Int)).toNat=(0:Int).toNat by congr 1;omega]
   ·rw [decide_eq_false c0,cond_false]
    simp only [Zaa]
    by_cases c1:bytes>((ZfJ text).length:Int)
    ·rw [decide_eq_true c1,cond_true,Zab _ (by simp),show min (max bytes 0) ((ZfJ text).length:Int)=((ZfJ text).length:Int) by omega]
    ·rw [decide_eq_false c1,cond_false,Zab _ (by simp only [Bool.and_eq_true,decide_eq_true_eq];omega),show min (max bytes 0) ((ZfJ text).length:Int)=bytes by omega]
def ZcM (text log:Str):Str×Str×Bool:=
 if (ZmQ 10 log).1=dec (ZmQ 10 log).2.1.length∧ZdX (ZmQ 10 log).2.1=true then ((ZmQ 10 log).2.1,[],true)
 else if ZdX text=true then (text,[],true) else ([],[],false)
theorem Zpj (b:UInt8) (s:Str):(ZmQ b s).1.length≤s.length∧(ZmQ b s).2.1.length≤s.length:=by
 unfold ZmQ
 cases s.findIdx? (· == b) with
 | none=>simp
 | some i=>simp;omega
theorem ZeG (text log:Str) (h1:text.length≤1048576) (h2:log.length≤1048576):Zbq text log=some (ZcM text log):=by
 unfold Zbq ZcM
 have hc:=Zpj 10 log
 rw [ZxU log h2,Zhl]
 generalize ZmQ 10 log=p at hc
 obtain ⟨a,b,f⟩:=p
 dsimp only at hc ⊢
 rw [Zta _ (by omega),ZhT b (by omega),ZhT text h1]
 simp only [Zaa]
 by_cases c:a=dec b.length
 ·rw [c,beq_self_eq_true,cond_true]
  cases hz:ZdX b with
  | true=>rw [if_pos ⟨rfl,rfl⟩];rfl
  | false=>
   rw [if_neg (by simp)]
   simp only [Zaa,cond_false]
   cases ZdX text<;>rfl
 ·rw [beq_false_of_ne c,if_neg (fun q=>c q.1)]
  simp only [Zaa,cond_false]
  cases ZdX text<;>rfl
theorem Zlp (text log:Str) (h1:text.length≤1048576) (h2:log.length≤1048576):ZbA text log=some (ZcM text log):=by
 unfold ZbA ZcM
 have hcut:=ZvQ log h2 10 1 (by omega)
 rw [show (((10:UInt8).toNat:Nat):Int)=10 from rfl,show ((1:Nat):Int)=1 from rfl] at hcut
 have hc:=Zpj 10 log
 rw [hcut]
 simp only [Zaa]
 cases hf:log.findIdx? (· == 10) with
 | none=>
  have hL:ZwN 10 1 log=[log]:=by unfold ZwN;rw [hf]
  have hM:ZmQ 10 log=(log,[],false):=by unfold ZmQ;rw [hf]
  rw [hL,hM]
  rw [show decide ((([log]:List Str).length:Int)>1)=false from rfl]
  simp only [cond_false,Zaa]
  rw [ZiU text h1,Zl3,if_neg (by simp)]
  simp only [Zaa]
  cases ZdX text<;>rfl
 | some i=>
  have hL:ZwN 10 1 log=[log.take i,log.drop (i+1)]:=by unfold ZwN;rw [hf];rfl
  have hM:ZmQ 10 log=(log.take i,log.drop (i+1),true):=by unfold ZmQ;rw [hf]
  rw [hM] at hc
  have hc1:(log.take i).length≤log.length:=hc.1
  have hc2:(log.drop (i+1)).length≤log.length:=hc.2
  rw [hL,hM]
  rw [show decide ((([log.take i,log.drop (i+1)]:List Str).length:Int)>1)=true from rfl,cond_true]
  rw [show ([log.take i,log.drop (i+1)]:List Str).getD 0 []=log.take i from rfl,show ([log.take i,log.drop (i+1)]:List Str).getD 1 []=log.drop (i+1) from rfl,Zab _ (by rfl),Zab _ (by rfl),
   Zxz _ (by omega)]
  simp only [Zaa]
  rw [Zab _ (by rfl),ZiU _ (by omega),ZiU text h1]
  simp only [Zaa]
  cases hz:ZdX (log.drop (i+1)) with
  | false=>
   rw [if_neg (by simp)]
   cases (numM (log.take i)==((log.drop (i+1)).length:Int))<;>simp only [cond_true,cond_false,Zaa]<;>cases ZdX text<;>rfl
  | true=>
   have hle:=ZxF (by omega) hz
   rw [Zxi _ _ (by omega)]
   by_cases c:log.take i=dec (log.drop (i+1)).length
   ·rw [c,beq_self_eq_true,if_pos (by simp)];rfl
   ·rw [beq_false_of_ne c,if_neg (fun q=>c q.1)]
    simp only [cond_false,Zaa]
    cases ZdX text<;>rfl
end Ev
end
section
namespace Ev
open Go
theorem Ze1 {es:List Fil} (h:Zgh es=true):ZdX (Ze9 es)=true:=by unfold ZdX;rw [Zkl es h];rfl
theorem Zye {c:UInt8} (h:isD c=true):(c==10)=false:=by
 apply beq_false_of_ne
 rintro rfl
 revert h;decide
theorem Zts (n:Nat) (rest:Str):ZmQ 10 (dec n++10::rest)=(dec n,rest,true):=by
 have hd:=(Zhy n).1
 have hf:(dec n++10::rest).findIdx? (· == 10)=some (dec n).length:=by
  rw [List.findIdx?_append,List.findIdx?_eq_none_iff.2 (fun x hx=>Zye (List.all_eq_true.1 hd x hx))]
  have:(10::rest:Str).findIdx? (· == 10)=some 0:=by rw [List.findIdx?_cons];rfl
  rw [this];simp
 unfold ZmQ
 rw [hf]
 dsimp only
 rw [List.take_left' rfl,←List.drop_drop,List.drop_left' rfl];rfl
theorem Zwp {s:Str} (h:s.all isD=true):ZmQ 10 s=(s,[],false):=by
 unfold ZmQ
 rw [List.findIdx?_eq_none_iff.2 (fun x hx=>Zye (List.all_eq_true.1 h x hx))]
theorem ZyT {m n:Nat} (h:dec m=dec n):m=n:=by
 have h1:=(Zhy m).2.2.2
 have h2:=(Zhy n).2.2.2
 rw [h] at h1;rw [h1] at h2;exact h2
theorem Zlw (text0:Str) {text:Str} (h:ZdX text=true):ZcM text0 (ZfJ text)=(text,[],true):=by
 have e:ZfJ text=dec text.length++10::text:=by unfold ZfJ;simp
 unfold ZcM
 rw [e,Zts]
 rw [if_pos ⟨rfl,h⟩]
theorem ZpU {text0 text:Str} (h0:ZdX text0=true) {k:Nat} (hk:k<(ZfJ text).length):ZcM text0 ((ZfJ text).take k)=(text0,[],true):=by
 have e:ZfJ text=dec text.length++10::text:=by unfold ZfJ;simp
 have hl:(ZfJ text).length=(dec text.length).length+1+text.length:=by rw [e,List.length_append,List.length_cons];omega
 have hno:¬((ZmQ 10 ((ZfJ text).take k)).1=dec (ZmQ 10 ((ZfJ text).take k)).2.1.length∧ZdX (ZmQ 10 ((ZfJ text).take k)).2.1=true):=by
  by_cases c:k≤(dec text.length).length
  ·have hd:((ZfJ text).take k).all isD=true:=by
    rw [e,List.take_append_of_le_length c]
    rw [List.all_eq_true]
    exact fun x hx=>List.all_eq_true.1 (Zhy text.length).1 x (List.mem_of_mem_take hx)
   rw [Zwp hd]
   rintro ⟨_,q⟩
   dsimp only at q
   rw [Zl3] at q;cases q
  ·have ht:(ZfJ text).take k=dec text.length++10::text.take (k-(dec text.length).length-1):=by
    obtain ⟨m,rfl⟩:∃m,k=(dec text.length).length+(m+1):=⟨k-(dec text.length).length-1,by omega⟩
    rw [e,List.take_length_add_append,List.take_succ_cons,show (dec text.length).length+(m+1)-(dec text.length).length-1=m by omega]
   rw [ht,Zts]
   rintro ⟨q,_⟩
   have:=ZyT q
   rw [List.length_take] at this
   omega
 unfold ZcM
 rw [if_neg hno,if_pos h0]
theorem Znq {text:Str} (h:ZdX text=true):ZcM text []=(text,[],true):=by
 unfold ZcM
 have:ZmQ 10 []=([],[],false):=rfl
 rw [this,if_neg (by rintro ⟨_,q⟩;dsimp only at q;rw [Zl3] at q;cases q),if_pos h]
theorem ZmL (xs:List Int) (h:Zjp xs):FnDiskTear xs=some true:=by
 unfold FnDiskTear
 by_cases c:xs.length>1048576
 ·rw [decide_eq_true (by omega)];rfl
 rw [decide_eq_false (by omega),cond_false]
 obtain ⟨⟨dt,dl,text,bytes⟩,hd,es,fs,hze,hzf,rfl,rfl,rfl⟩:=Zge xs h (by omega)
 have hl1:=ZgF es hze
 have hl2:=ZgF fs hzf
 rw [hd]
 simp only [Zaa]
 rw [ZgX _ _ _ _ (by omega) (by omega),Zfv _ _ _ _ (by omega) (by omega),Zjc _ _ (by omega),ZgL _ _ (by omega)]
 have hM:ZhW (Ze9 es) []=true:=by unfold ZhW;rw [Ze1 hze];rfl
 have hT:∀n,Zek (Ze9 es) [] (Ze9 fs) n=(Ze9 es,(ZfJ (Ze9 fs)).take (min (max n 0) ((ZfJ (Ze9 fs)).length:Int)).toNat):=fun n=>by
  unfold Zek;rw [if_pos ⟨hM,Ze1 hzf⟩]
 have hlog:=(ZiR (Ze9 fs) (by omega))
 simp only [Zaa]
 rw [Zd0,hM]
 simp only [Zaa,beq_self_eq_true,Bool.not_true,cond_false]
 rw [ZgX _ _ _ _ (by omega) (by omega),hT,hT]
 simp only [Zaa]
 have hfull:(ZfJ (Ze9 fs)).take (min (max (1000000:Int) 0) ((ZfJ (Ze9 fs)).length:Int)).toNat=ZfJ (Ze9 fs):=List.take_of_length_le (by omega)
 rw [hfull,ZeG _ _ (by omega) (by rw [List.length_take];omega)]
 simp only [Zaa]
 generalize hk:(min (max bytes 0) ((ZfJ (Ze9 fs)).length:Int)).toNat=k
 by_cases hc:k<(ZfJ (Ze9 fs)).length
 ·have hne:((ZfJ (Ze9 fs)).take k==ZfJ (Ze9 fs))=false:=beq_false_of_ne (fun q=>by
   have:=congrArg List.length q
   rw [List.length_take] at this;omega)
  rw [ZpU (Ze1 hze) hc,hne]
  simp only [Zaa,cond_false,cond_true]
  rw [Zd0]
  rfl
 ·rw [List.take_of_length_le (by omega),Zlw _ (Ze1 hzf),beq_self_eq_true]
  simp only [Zaa,cond_true,beq_self_eq_true]
theorem ZmN (xs:List Int) (h:Zjp xs):FnDiskOver xs=some true:=by
 unfold FnDiskOver
 by_cases c:xs.length>1048576
 ·rw [decide_eq_true (by omega)];rfl
 rw [decide_eq_false (by omega),cond_false]
 obtain ⟨⟨dt,dl,text,bytes⟩,hd,es,fs,hze,hzf,rfl,rfl,rfl⟩:=Zge xs h (by omega)
 have hl1:=ZgF es hze
 have hl2:=ZgF fs hzf
 rw [hd]
 simp only [Zaa]
 rw [ZgX _ _ _ _ (by omega) (by omega),Zfv _ _ _ _ (by omega) (by omega),ZgL _ _ (by omega)]
 have hT:∀(gs:List Fil) n,Zgh gs=true→Zek (Ze9 gs) [] (Ze9 fs) n=(Ze9 gs,(ZfJ (Ze9 fs)).take (min (max n 0) ((ZfJ (Ze9 fs)).length:Int)).toNat):=fun gs n hg=>by
  unfold Zek;rw [if_pos ⟨by unfold ZhW;rw [Ze1 hg];rfl,Ze1 hzf⟩]
 have hM:ZhW (Ze9 es) []=true:=by unfold ZhW;rw [Ze1 hze];rfl
 have hlog:=(ZiR (Ze9 fs) (by omega))
 simp only [Zaa]
 rw [Zd0,hM]
 simp only [Zaa,Bool.not_true,cond_false]
 rw [hT es bytes hze]
 simp only [Zaa]
 rw [ZeG _ _ (by omega) (by rw [List.length_take];omega)]
 generalize hk:(min (max bytes 0) ((ZfJ (Ze9 fs)).length:Int)).toNat=k
 have hgs:∃gs,Zgh gs=true∧(Ze9 gs).length≤3000∧ZcM (Ze9 es) ((ZfJ (Ze9 fs)).take k)=(Ze9 gs,[],true):=by
  by_cases hc:k<(ZfJ (Ze9 fs)).length
  ·exact ⟨es,hze,hl1,ZpU (Ze1 hze) hc⟩
  ·exact ⟨fs,hzf,hl2,by rw [List.take_of_length_le (by omega)];exact Zlw _ (Ze1 hzf)⟩
 obtain ⟨gs,hzg,hlg,hg⟩:=hgs
 rw [hg]
 simp only [Zaa]
 rw [ZgX _ _ _ _ (by omega) (by omega),hT gs 1000000 hzg]
 have hfull:(ZfJ (Ze9 fs)).take (min (max (1000000:Int) 0) ((ZfJ (Ze9 fs)).length:Int)).toNat=ZfJ (Ze9 fs):=List.take_of_length_le (by omega)
 simp only [Zaa]
 rw [hfull,ZeG _ _ (by omega) (by omega),Zlw _ (Ze1 hzf)]
 simp only [Zaa,cond_true,beq_self_eq_true]
theorem Zm4 (xs:List Int) (h:Zjp xs) (hl:xs.length≤1048576):Ret (ZbB xs) fun r=>r.1.length≤100000∧r.2.length≤100000:=by
 unfold ZbB
 refine .bind (Zge xs h hl) ?_
 rintro ⟨dt,dl,text,bytes⟩ ⟨es,fs,hze,hzf,rfl,rfl,rfl⟩
 have hl1:=ZgF es hze
 have hl2:=ZgF fs hzf
 refine .bind (ZoT xs h hl) ?_
 rintro ⟨b,p⟩ ⟨rfl,hr⟩
 dsimp only at hr ⊢
 refine .bind (Zdt 8 hr (by omega) (by omega) (by omega)) ?_
 rintro ⟨x,b1,p1⟩ ⟨rfl,g1,g2,g3⟩
 dsimp only at g1 g2 g3 ⊢
 refine .cond (fun _=>?_) fun _=>?_
 ·refine .bind (ZvU (Ze9 es) (by omega) (hr.up g1) (by omega)) ?_
  rintro ⟨t,b2,p2⟩ ⟨rfl,k1,k2,k3⟩
  dsimp only at k1 k2 k3 ⊢
  refine .bind (Zkx _ ((hr.up g1).up k1) (by omega) (by decide) (by decide)) ?_
  rintro ⟨z,b3,p3⟩ ⟨rfl,l1,l2,l3⟩
  dsimp only at l3 ⊢
  refine .pure ⟨by dsimp only;omega,?_⟩
  dsimp only
  simp only [List.mem_cons,List.not_mem_nil,or_false] at l3
  rcases l3 with rfl | rfl | rfl<;>decide
 ·rw [Zfv _ _ _ _ (by omega) (by omega)]
  simp only [Zaa]
  have hlog:=(ZiR (Ze9 fs) (by omega))
  refine .pure ?_
  unfold Zek
  split
  ·dsimp only
   rw [List.length_take];omega
  ·simp
theorem ZmM (xs:List Int) (h:Zjp xs):FnDiskRise xs=some true:=by
 unfold FnDiskRise
 by_cases c:xs.length>1048576
 ·rw [decide_eq_true (by omega)];rfl
 rw [decide_eq_false (by omega),cond_false]
 obtain ⟨⟨text,log⟩,hd,hl1,hl2⟩:=Zm4 xs h (by omega)
 dsimp only at hl1 hl2
 rw [hd]
 simp only [Zaa]
 rw [ZeG _ _ (by omega) (by omega),Zlp _ _ (by omega) (by omega)]
 simp only [Zaa]
 rw [Zd0]
 simp only [Zaa,beq_self_eq_true,Bool.not_true,cond_false]
 have key:ZcM text log=([],[],false)∨∃t,ZdX t=true∧t.length≤1048576∧ZcM text log=(t,[],true):=by
  have hc:=Zpj 10 log
  unfold ZcM
  split
  ·rename_i q;exact .inr ⟨_,q.2,by omega,rfl⟩
  ·split
   ·rename_i q;exact .inr ⟨text,q,by omega,rfl⟩
   ·exact .inl rfl
 rcases key with e | ⟨t,hz,ht,e⟩
 ·rw [e];rfl
 ·rw [e]
  simp only [Zaa,Bool.not_true,cond_false]
  rw [ZeG _ _ ht (by simp),Znq hz,Zjc _ _ ht]
  have hM:ZhW t []=true:=by unfold ZhW;rw [hz];rfl
  simp only [Zaa]
  rw [hM]
  simp only [Zaa,cond_true]
  rw [Zd0]
  rfl
theorem Zm7 (xs:List Int) (h:Zjp xs):FnDiskNew xs=some true:=by
 unfold FnDiskNew
 by_cases c:xs.length>1048576
 ·rw [decide_eq_true (by omega)];rfl
 rw [decide_eq_false (by omega),cond_false]
 obtain ⟨es,hd,hs⟩:=Zpg xs h (by omega)
 have hn:es.length≤1048576:=by have:=hs.1;omega
 have hx:∀e∈es,e.1.length≤1048576:=fun e he=>sm_fil (hs.2 e he)
 rw [hd]
 simp only [Zaa]
 rw [Zuy es hn hx,ZmV es hn hx]
 simp only [Zaa]
 rw [Zd0]
 simp only [Zaa,beq_self_eq_true,Bool.not_true,cond_false]
 unfold Zjd
 cases hz:Zgh es with
 | false=>rfl
 | true=>
  have hl:=ZgF es hz
  have hM:ZhW (Ze9 es) []=true:=by unfold ZhW;rw [Ze1 hz];rfl
  rw [if_pos rfl]
  simp only [Zaa,Bool.not_true,cond_false]
  rw [ZeG _ _ (by omega) (by simp),Znq (Ze1 hz)]
  simp only [Zaa]
  rw [ZwS hz,Zjc _ _ (by omega),hM]
  simp only [Zaa,cond_true]
  rw [Zd0]
  simp only [Zaa,cond_true]
  rw [Zsk es hn]
  rfl
end Ev
end
