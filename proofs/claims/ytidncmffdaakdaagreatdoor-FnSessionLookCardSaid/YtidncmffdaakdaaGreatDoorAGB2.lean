/- Plain laws about what the functions compute. Conditions: as stated. -/
import Derived.Lib.Bytealg
import Derived.Test.YtidncmffdaakdaaGreatDoorAGB1
set_option linter.unusedVariables false
set_option linter.unusedSimpArgs false
section
namespace Ev
open Go
theorem Ztx:ZgW=ZqE:=rfl
theorem Zyg (y mo:Int):∃n,ZqE y mo=some n∧n≤31:=by
 unfold ZqE
 cases (mo==4)<;>cases (mo==6)<;>cases (mo==9)<;>cases (mo==11)<;>simp only [cond_true,cond_false,Zaa]<;>first
  | exact ⟨30,rfl,by omega⟩
  | (cases (mo==2)<;>simp only [cond_true,cond_false,Zaa]<;>first
    | exact ⟨31,rfl,by omega⟩
    | (cases (y.tmod 4==0)<;>simp only [cond_true,cond_false,Zaa]<;>first
      | exact ⟨28,rfl,by omega⟩
      | (cases (y.tmod 100 != 0)<;>simp only [cond_true,cond_false,Zaa]<;>first
        | exact ⟨29,rfl,by omega⟩
        | (cases (y.tmod 400==0)<;>first
          | exact ⟨29,rfl,by omega⟩
          | exact ⟨28,rfl,by omega⟩))))
theorem ZzC (y mo:Int):∃n,ZqE y mo=some n:=by
 obtain ⟨n,h,_⟩:=Zyg y mo
 exact ⟨n,h⟩
def ZtN (y mo:Int):Int:=(ZqE y mo).getD 0
theorem Zyh (y mo:Int):ZqE y mo=some (ZtN y mo):=by
 obtain ⟨n,h⟩:=ZzC y mo
 unfold ZtN;rw [h];rfl
def stM (y mo d h mi sec:Int):Bool:=decide (1980≤y∧y≤2107)&&(decide (1≤mo∧mo≤12)&&(decide (1≤d∧d≤ZtN y mo)&&(decide (0≤h∧h≤23)&&(decide (0≤mi∧mi≤59)&&(decide (0≤sec∧sec≤58)&&(sec.tmod 2==0))))))
theorem Zkq (y mo d h mi sec:Int):ZdA y mo d h mi sec=some (stM y mo d h mi sec):=by
 unfold ZdA stM
 simp only [ZdU,Zyh,Zaa]
 cases decide (1980≤y∧y≤2107)<;>cases decide (1≤mo∧mo≤12)<;>cases decide (1≤d∧d≤ZtN y mo)<;>cases decide (0≤h∧h≤23)<;>cases decide (0≤mi∧mi≤59)<;>cases decide (0≤sec∧sec≤58)<;>rfl
theorem ZnW (y mo d h mi sec:Int):Zb1 y mo d h mi sec=some (stM y mo d h mi sec):=by
 unfold Zb1 stM
 rw [Ztx]
 simp only [Zl1,Zyh,Zaa]
 cases decide (1980≤y∧y≤2107)<;>cases decide (1≤mo∧mo≤12)<;>cases decide (1≤d∧d≤ZtN y mo)<;>cases decide (0≤h∧h≤23)<;>cases decide (0≤mi∧mi≤59)<;>cases decide (0≤sec∧sec≤58)<;>rfl
theorem ZzD (y mo:Int):ZtN y mo≤31:=by
 obtain ⟨n,h,hn⟩:=Zyg y mo
 unfold ZtN;rw [h];exact hn
def stN (y mo d h mi sec:Nat):Nat:=sec/2+mi*32+h*2048+d*65536+mo*2097152+(y-1980)*33554432
theorem Zkr {y mo d h mi sec:Int} (hk:stM y mo d h mi sec=true):∃y' mo' d' h' mi' sec':Nat,y=y'∧mo=mo'∧d=d'∧h=h'∧mi=mi'∧sec=sec'∧1980≤y'∧y'≤2107∧1≤mo'∧mo'≤12∧1≤d'∧d'≤31∧h'≤23∧mi'≤59∧sec'≤58∧sec'%2=0:=by
 simp only [stM,Bool.and_eq_true,decide_eq_true_eq,beq_iff_eq] at hk
 obtain ⟨⟨a1,a2⟩,⟨b1,b2⟩,⟨c1,c2⟩,⟨d1,d2⟩,⟨e1,e2⟩,⟨f1,f2⟩,g⟩:=hk
 have:=ZzD y mo
 rw [ZaG f1] at g
 exact ⟨y.toNat,mo.toNat,d.toNat,h.toNat,mi.toNat,sec.toNat,by omega,by omega,by omega,by omega,by omega,by omega,by omega,by omega,by omega,by omega,by omega,by omega,by omega,by omega,by omega,by omega⟩
theorem Zmn {y mo d h mi sec:Nat} (hk:stM y mo d h mi sec=true):Zcs y mo d h mi sec=some ((stN y mo d h mi sec:Nat):Int):=by
 obtain ⟨y',mo',d',h',mi',sec',e1,e2,e3,e4,e5,e6,b⟩:=Zkr hk
 obtain rfl:y=y':=by omega
 obtain rfl:mo=mo':=by omega
 obtain rfl:d=d':=by omega
 obtain rfl:h=h':=by omega
 obtain rfl:mi=mi':=by omega
 obtain rfl:sec=sec':=by omega
 obtain ⟨b1,b2,b3,b4,b5,b6,b7,b8,b9,b10⟩:=b
 unfold Zcs
 rw [Zkq,hk]
 simp only [Zaa,Bool.not_true,cond_false]
 have s1:=ZeH mi 5 (by omega) (by omega)
 have s2:=ZeH h 11 (by omega) (by omega)
 have s3:=ZeH d 16 (by omega) (by omega)
 have s4:=ZeH mo 21 (by omega) (by omega)
 have s5:=ZeH (y-1980) 25 (by omega) (by omega)
 rw [show ((5:Nat):Int)=5 from rfl] at s1
 rw [show ((11:Nat):Int)=11 from rfl] at s2
 rw [show ((16:Nat):Int)=16 from rfl] at s3
 rw [show ((21:Nat):Int)=21 from rfl] at s4
 rw [show ((25:Nat):Int)=25 from rfl] at s5
 rw [ZaF (by omega),show (sec:Int)/2=((sec/2:Nat):Int) by omega,Zaf (by omega) (by omega),Zaf (by omega) (by omega),show (y:Int)-1980=((y-1980:Nat):Int) by omega,s1,s2,s3,s4,s5]
 rw [Zja _ _ (by omega) (by omega),Zlx (sec/2) mi 5 (by omega)]
 rw [Zja _ _ (by omega) (by omega),Zlx _ h 11 (by omega)]
 rw [Zja _ _ (by omega) (by omega),Zlx _ d 16 (by omega)]
 rw [Zja _ _ (by omega) (by omega),Zlx _ mo 21 (by omega)]
 rw [Zja _ _ (by omega) (by omega),Zlx _ (y-1980) 25 (by omega)]
 rfl
theorem ZqS {y mo d h mi sec:Int} (hk:stM y mo d h mi sec=false):Zcs y mo d h mi sec=some (-1):=by
 unfold Zcs
 rw [Zkq,hk];rfl
theorem Zzj {y mo d h mi sec:Nat} (hk:stM y mo d h mi sec=true):ZjE y mo d h mi sec=some ((stN y mo d h mi sec:Nat):Int):=by
 obtain ⟨y',mo',d',h',mi',sec',e1,e2,e3,e4,e5,e6,b⟩:=Zkr hk
 obtain rfl:y=y':=by omega
 obtain rfl:mo=mo':=by omega
 obtain rfl:d=d':=by omega
 obtain rfl:h=h':=by omega
 obtain rfl:mi=mi':=by omega
 obtain rfl:sec=sec':=by omega
 obtain ⟨b1,b2,b3,b4,b5,b6,b7,b8,b9,b10⟩:=b
 unfold ZjE
 rw [ZaF (by omega)]
 rw [Zaf (n:=(y:Int)-1980) (by omega) (by omega)]
 rw [Zaf (n:=((y:Int)-1980)*16) (by omega) (by omega)]
 rw [Zaf (n:=((y:Int)-1980)*16+mo) (by omega) (by omega)]
 rw [Zaf (n:=(((y:Int)-1980)*16+mo)*32) (by omega) (by omega)]
 rw [Zaf (n:=(((y:Int)-1980)*16+mo)*32+d) (by omega) (by omega)]
 rw [Zaf (n:=((((y:Int)-1980)*16+mo)*32+d)*32) (by omega) (by omega)]
 rw [Zaf (n:=((((y:Int)-1980)*16+mo)*32+d)*32+h) (by omega) (by omega)]
 rw [Zaf (n:=(((((y:Int)-1980)*16+mo)*32+d)*32+h)*64) (by omega) (by omega)]
 rw [Zaf (n:=(((((y:Int)-1980)*16+mo)*32+d)*32+h)*64+mi) (by omega) (by omega)]
 rw [Zaf (n:=((((((y:Int)-1980)*16+mo)*32+d)*32+h)*64+mi)*32) (by omega) (by omega)]
 rw [Zaf (n:=(sec:Int)/2) (by omega) (by omega)]
 rw [Zaf (by omega) (by omega)]
 unfold stN
 congr 1
 omega
structure Stm where
 y:Nat
 mo:Nat
 d:Nat
 h:Nat
 mi:Nat
 sec:Nat
def stG (n:Nat):Stm:=⟨n/33554432+1980,n/2097152%16,n/65536%32,n/2048%32,n/32%64,2*(n%32)⟩
theorem Zzk (n:Nat) (hn:n<4294967296):ZjF (n:Int)=some (((stG n).y:Int),((stG n).mo:Int),((stG n).d:Int),((stG n).h:Int),((stG n).mi:Int),((stG n).sec:Int)):=by
 unfold ZjF stG
 rw [ZaF (a:=(n:Int)) (by omega),Zaf (n:=(n:Int)/32) (by omega) (by omega)]
 rw [ZaF (a:=(n:Int)/32) (by omega),Zaf (n:=(n:Int)/32/64) (by omega) (by omega)]
 rw [ZaF (a:=(n:Int)/32/64) (by omega),Zaf (n:=(n:Int)/32/64/32) (by omega) (by omega)]
 rw [ZaF (a:=(n:Int)/32/64/32) (by omega),Zaf (n:=(n:Int)/32/64/32/32) (by omega) (by omega)]
 rw [ZaF (a:=(n:Int)/32/64/32/32) (by omega),Zaf (n:=(n:Int)/32/64/32/32/16) (by omega) (by omega)]
 rw [Zaf (n:=(n:Int)/32/64/32/32/16+1980) (by omega) (by omega),ZaG (by omega),ZaG (by omega),ZaG (by omega),ZaG (by omega),ZaG (by omega),Zaf (by omega) (by omega)]
 dsimp only
 congr 1
 refine Prod.ext ?_ (Prod.ext ?_ (Prod.ext ?_ (Prod.ext ?_ (Prod.ext ?_ ?_))))<;>dsimp only<;>omega
theorem ZwM (n:Nat) (hn:n<4294967296):stN (stG n).y (stG n).mo (stG n).d (stG n).h (stG n).mi (stG n).sec=n:=by
 unfold stN stG
 dsimp only
 omega
set_option maxRecDepth 100000 in
theorem ZpD {y mo d h mi sec:Nat} (hk:stM y mo d h mi sec=true):stG (stN y mo d h mi sec)=⟨y,mo,d,h,mi,sec⟩∧stN y mo d h mi sec<4294967296:=by
 obtain ⟨y',mo',d',h',mi',sec',e1,e2,e3,e4,e5,e6,b⟩:=Zkr hk
 obtain rfl:y=y':=by omega
 obtain rfl:mo=mo':=by omega
 obtain rfl:d=d':=by omega
 obtain rfl:h=h':=by omega
 obtain rfl:mi=mi':=by omega
 obtain rfl:sec=sec':=by omega
 obtain ⟨b1,b2,b3,b4,b5,b6,b7,b8,b9,b10⟩:=b
 unfold stG stN
 constructor
 ·congr 1<;>omega
 ·omega
theorem Zf7 (x k:Nat) (hk:k≤32) (hx:x<9223372036854775808):ZkR .i64 (x:Int) ((2^k-1:Nat):Int)=((x%2^k:Nat):Int):=by
 have hp:2^k≤2^32:=Nat.pow_le_pow_right (by omega) hk
 rw [ZuN _ _ hx (by omega),Nat.and_two_pow_sub_one_eq_mod]
theorem Zs3 (n:Nat) (hn:n<4294967296):ZdD (n:Int)=some (if stM (stG n).y (stG n).mo (stG n).d (stG n).h (stG n).mi (stG n).sec then
  (((stG n).y:Int),((stG n).mo:Int),((stG n).d:Int),((stG n).h:Int),((stG n).mi:Int),((stG n).sec:Int),true) else (0,0,0,0,0,0,false)):=by
 have m1:=Zf7 (n/2^25) 7 (by omega) (by omega)
 have m2:=Zf7 (n/2^21) 4 (by omega) (by omega)
 have m3:=Zf7 (n/2^16) 5 (by omega) (by omega)
 have m4:=Zf7 (n/2^11) 5 (by omega) (by omega)
 have m5:=Zf7 (n/2^5) 6 (by omega) (by omega)
 have m6:=Zf7 n 5 (by omega) (by omega)
 have r1:=Ze9 n 25 (by omega)
 have r2:=Ze9 n 21 (by omega)
 have r3:=Ze9 n 16 (by omega)
 have r4:=Ze9 n 11 (by omega)
 have r5:=Ze9 n 5 (by omega)
 rw [show ((25:Nat):Int)=25 from rfl] at r1
 rw [show ((21:Nat):Int)=21 from rfl] at r2
 rw [show ((16:Nat):Int)=16 from rfl] at r3
 rw [show ((11:Nat):Int)=11 from rfl] at r4
 rw [show ((5:Nat):Int)=5 from rfl] at r5
 rw [show ((2^7-1:Nat):Int)=127 from rfl] at m1
 rw [show ((2^4-1:Nat):Int)=15 from rfl] at m2
 rw [show ((2^5-1:Nat):Int)=31 from rfl] at m3 m4 m6
 rw [show ((2^6-1:Nat):Int)=63 from rfl] at m5
 have f1:w64 (1980+((n/2^25%2^7:Nat):Int))=((stG n).y:Int):=by
  rw [Zaf (by omega) (by omega)];unfold stG;dsimp only;omega
 have f2:((n/2^21%2^4:Nat):Int)=((stG n).mo:Int):=rfl
 have f3:((n/2^16%2^5:Nat):Int)=((stG n).d:Int):=rfl
 have f4:((n/2^11%2^5:Nat):Int)=((stG n).h:Int):=rfl
 have f5:((n/2^5%2^6:Nat):Int)=((stG n).mi:Int):=rfl
 have f6:w64 (((n%2^5:Nat):Int)*2)=((stG n).sec:Int):=by
  rw [Zaf (by omega) (by omega)];unfold stG;dsimp only;omega
 unfold ZdD
 rw [decide_eq_false (by omega),cond_false,r1,r2,r3,r4,r5,m1,m2,m3,m4,m5,m6,f1,f2,f3,f4,f5,f6]
 cases hk:stM (stG n).y (stG n).mo (stG n).d (stG n).h (stG n).mi (stG n).sec with
 | true=>
  rw [Zmn hk,ZwM n hn]
  simp only [Zaa]
  rw [show ((n:Int) != (n:Int))=false by simp,cond_false]
  rfl
 | false=>
  rw [ZqS hk]
  simp only [Zaa]
  rw [show ((-1:Int) != (n:Int))=true by simp only [bne_iff_ne,ne_eq];omega,cond_true]
  rfl
end Ev
end
section
namespace Ev
open Go
def ZbF (b:UInt8):Str→List Str
 | []=>[[]]
 | c::s=>if c=b then []::ZbF b s else match ZbF b s with
  | p::r=>(c::p)::r
  | []=>[[c]]
theorem Zfa (b:UInt8):∀s,ZbF b s≠[]
 | []=>by simp [ZbF]
 | c::s=>by
  simp only [ZbF]
  split
  ·simp
  ·split<;>simp
def Zzw (p:Str):List Str→List Str
 | []=>[p]
 | q::r=>(p++q)::r
theorem Zwh (b:UInt8) (c:UInt8) (p s:Str) (h:c≠b):Zzw p (ZbF b (c::s))=Zzw (p++[c]) (ZbF b s):=by
 simp only [ZbF,if_neg h]
 cases hc:ZbF b s with
 | nil=>exact absurd hc (Zfa b s)
 | cons q r=>simp [Zzw]
theorem Zyi (b:UInt8) (p s:Str):Zzw p (ZbF b (b::s))=p::ZbF b s:=by
 simp [ZbF,Zzw]
theorem ZuR (l:List Str) (h:l≠[]):Zzw [] l=l:=by cases l<;>simp_all [Zzw]
theorem Zj1 (b:UInt8):∀s,(ZbF b s).length≤s.length+1
 | []=>by simp [ZbF]
 | c::s=>by
  have:=Zj1 b s
  simp only [ZbF]
  split
  ·simp;omega
  ·cases hc:ZbF b s with
   | nil=>simp
   | cons q r=>rw [hc] at this;simp at this ⊢;omega
theorem Zyp (x:UInt8) (c:Nat) (hc:c<256):(((x.toNat:Int))==(c:Int))=(x==UInt8.ofNat c):=by
 by_cases h:x=UInt8.ofNat c
 ·subst h
  simp [UInt8.toNat_ofNat,Nat.mod_eq_of_lt hc]
 ·have h2:¬(x.toNat:Int)=(c:Int):=by
   intro e
   apply h
   have:x.toNat=c:=by omega
   rw [←this];simp
  rw [beq_eq_false_iff_ne.2 h,beq_eq_false_iff_ne.2 h2]
theorem Zzo (s:Str) (hs:s.length≤1099511627000):∀k i f (out:List Str),i+k=s.length→f≤i→out.length≤i→
  ∃f' out',Zdx.l0 (k+1) (s,47,((s.length:Int)+1),(f:Int),(i:Int),out)=some (s,((f':Nat):Int),out')∧f'≤s.length∧out'.length≤s.length∧
   out'++[s.drop f']=out++Zzw ((s.take i).drop f) (ZbF 47 (s.drop i)):=by
 intro k
 induction k with
 | zero=>
  intro i f out hi hf ho
  rw [Zdx.l0.succ]
  simp only [Zdx.l0.step]
  rw [ZaQ (by omega)]
  refine ⟨f,out,rfl,by omega,by omega,?_⟩
  have:i=s.length:=by omega
  subst this
  simp [ZbF,Zzw]
 | succ k ih=>
  intro i f out hi hf ho
  have hil:i<s.length:=by omega
  have hg:s.getD i 0=s[i]:=by simp [List.getD,hil]
  have hd:s.drop i=s[i]::s.drop (i+1):=List.drop_eq_getElem_cons hil
  rw [Zdx.l0.succ]
  simp only [Zdx.l0.step,Int.toNat_natCast]
  rw [Zab _ (Zaw hil),ZaP hil,cond_true,hg,show decide ((out.length:Int)<(s.length:Int)+1)=true from decide_eq_true (by omega)]
  simp only [Option.bind_some,cond_true]
  have hb:=Zyp s[i] 47 (by decide)
  rw [show ((47:Nat):Int)=47 from rfl] at hb
  rw [hb,hd]
  by_cases hc:s[i]=UInt8.ofNat 47
  ·rw [beq_iff_eq.2 hc,cond_true,Zab _ (ZiQ (by omega)),Zab _ (ZiQ hf),Zab _ (Ze5 (by simp;omega)),Zda (by omega)]
   obtain ⟨f',out',h1,h2,h3,h4⟩:=ih (i+1) (i+1) (out++[(s.take i).drop f]) (by omega) (by omega) (by simp;omega)
   refine ⟨f',out',h1,h2,h3,?_⟩
   rw [h4,hc]
   have e:(s.take (i+1)).drop (i+1)=[]:=List.drop_eq_nil_of_le (by simp;omega)
   rw [e,ZuR _ (Zfa _ _)]
   have:=Zyi 47 ((s.take i).drop f) (s.drop (i+1))
   rw [show (UInt8.ofNat 47)=47 from rfl,this]
   simp
  ·rw [beq_eq_false_iff_ne.2 hc,cond_false,Zda (by omega)]
   obtain ⟨f',out',h1,h2,h3,h4⟩:=ih (i+1) f out (by omega) (by omega) (by omega)
   refine ⟨f',out',h1,h2,h3,?_⟩
   rw [h4,Zwh 47 s[i] _ _ hc]
   have e:(s.take (i+1)).drop f=(s.take i).drop f++[s[i]]:=by
    rw [List.take_succ_eq_append_getElem hil,List.drop_append_of_le_length (by simp;omega)]
   rw [e]
theorem Zzp (s:Str) (hs:s.length≤1099511627000):Zdx s 47 ((s.length:Int)+1)=some (ZbF 47 s):=by
 obtain ⟨f',out',h1,h2,h3,h4⟩:=Zzo s hs s.length 0 0 [] (by omega) (by omega) (by simp)
 rw [show ((0:Nat):Int)=0 from rfl] at h1
 unfold Zdx
 rw [ZaA,h1]
 simp only [Option.bind_some,Int.toNat_natCast]
 rw [Zab _ (ZiQ h2),Zab _ (Ze5 (by simp;omega)),h4]
 simp only [List.take_zero,List.drop_zero,List.nil_append,List.drop_nil]
 rw [ZuR _ (Zfa _ _)]
end Ev
end
section
namespace Ev
open Go
def okN (n:Int):Bool:=decide ((97≤n∧n≤122)∨(48≤n∧n≤57)∨n=46∨n=45∨n=95)
def okC (c:UInt8):Bool:=okN c.toNat
theorem Zia {α:Type} (p:Prop) [Decidable p] (x y:α):(bif decide p then x else y)=if p then x else y:=by
 by_cases h:p<;>simp [h]
theorem ZzF {α:Type} (a b:Int) (x y:α):(bif a != b then x else y)=if a=b then y else x:=by
 by_cases h:a=b
 ·subst h;simp
 ·rw [show (a != b)=true from bne_iff_ne.2 h,if_neg h];rfl
theorem ZzG {α:Type} (a b:Int) (x y:α):(bif a==b then x else y)=if a=b then x else y:=by
 by_cases h:a=b
 ·subst h;simp
 ·rw [show (a==b)=false from beq_eq_false_iff_ne.2 h,if_neg h];rfl
def part (p:Str):Bool:=p.all okC&&(decide (1≤p.length)&&decide (p.length≤10)&&(!(p==[46])&&!(p==[46,46])))
theorem ZqK (n:Int):Zbx n 1 10=some (decide (1≤n)&&decide (n≤10)):=by
 unfold Zbx
 simp only [Zia,ge_iff_le]
 by_cases h:(1:Int)≤n<;>simp [h]
theorem ZAC (n:Int):ZhI n 1 10=some (decide (1≤n)&&decide (n≤10)):=ZqK n
theorem ZwX (s:Str) (hs:s.length≤1099511627000):∀k i,i+k=s.length→Zdc.l0 (k+1) (s,(s.length:Int),(i:Int))=some (if (s.drop i).all okC then .inl s else .inr false):=by
 intro k
 induction k with
 | zero=>
  intro i hi
  rw [Zdc.l0.succ]
  simp only [Zdc.l0.step]
  rw [ZaQ (by omega),List.drop_eq_nil_of_le (by omega)]
  rfl
 | succ k ih=>
  intro i hi
  have hil:i<s.length:=by omega
  have hg:s.getD i 0=s[i]:=by simp [List.getD,hil]
  have hd:s.drop i=s[i]::s.drop (i+1):=List.drop_eq_getElem_cons hil
  rw [Zdc.l0.succ]
  simp only [Zdc.l0.step,Int.toNat_natCast]
  rw [Zab _ (Zaw hil),ZaP hil,cond_true,Zda (by omega),ih (i+1) (by omega),hd,List.all_cons]
  have hc:okC s[i]=okN (s[i].toNat:Int):=rfl
  rw [hc]
  simp only [hg,Zia,ZzF]
  generalize ((s[i].toNat:Nat):Int)=n
  have key:(if n<97 then if n<48 then if n=46 then some false else if n=45 then some false else some (n != 95) else if n>57 then if n=46 then some false else if n=45 then some false else some (n != 95) else some false
    else if n>122 then if n<48 then if n=46 then some false else if n=45 then some false else some (n != 95) else if n>57 then if n=46 then some false else if n=45 then some false else some (n != 95) else some false else some false)=some (!okN n):=by
   unfold okN
   repeat' split
   all_goals
    congr 1
    rw [Bool.eq_iff_iff]
    simp
    try omega
  rw [key]
  simp only [Option.bind_some]
  cases okN n<;>rfl
theorem ZwY (s:Str) (hs:s.length≤1099511627000):Zdc s=some (part s):=by
 unfold Zdc
 have h:=ZwX s hs s.length 0 (by omega)
 rw [show ((0:Nat):Int)=0 from rfl] at h
 rw [ZaA,h]
 simp only [List.drop_zero,Option.bind_some]
 unfold part
 cases h1:s.all okC with
 | false=>rfl
 | true=>
  simp only [if_true,ZqK,Option.bind_some,Bool.true_and]
  have e1:decide ((1:Int)≤(s.length:Int))=decide (1≤s.length):=by rw [Bool.eq_iff_iff];simp;omega
  have e2:decide ((s.length:Int)≤10)=decide (s.length≤10):=by rw [Bool.eq_iff_iff];simp;omega
  rw [e1,e2]
  cases decide (1≤s.length)<;>cases decide (s.length≤10)<;>cases (s==[46])<;>rfl
end Ev
end
section
namespace Ev
open Go
theorem ZpI (w:Str) (i1:Int) (list:List Str) (hs:w.length≤1099511627000):∀k i,i+k=w.length→Zap.l0 (k+1) (i1,w,(i:Int),list)=some (if (w.drop i).all okC then .inl (i1,w,list) else .inr (.inr false)):=by
 intro k
 induction k with
 | zero=>
  intro i hi
  rw [Zap.l0.succ]
  simp only [Zap.l0.step]
  rw [ZaQ (by omega),List.drop_eq_nil_of_le (by omega)]
  rfl
 | succ k ih=>
  intro i hi
  have hil:i<w.length:=by omega
  have hg:w.getD i 0=w[i]:=by simp [List.getD,hil]
  have hd:w.drop i=w[i]::w.drop (i+1):=List.drop_eq_getElem_cons hil
  have hn:∀{β:Type} (x:Option β),need (decide ((0:Int)≤(i:Int))&&decide ((i:Int)<(w.length:Int))) x=x:=fun x=>Zab _ (Zaw hil)
  rw [Zap.l0.succ]
  simp only [Zap.l0.step,Int.toNat_natCast]
  simp only [hn]
  rw [ZaP hil,cond_true,Zda (by omega),ih (i+1) (by omega),hd,List.all_cons]
  have hc:okC w[i]=okN (w[i].toNat:Int):=rfl
  rw [hc]
  simp only [hg,Zia,ZzG,ge_iff_le]
  generalize ((w[i].toNat:Nat):Int)=n
  have key:∀{β:Type} (g:Bool→Option β),((if 97≤n then if n≤122 then some (!true) else if 48≤n then if n≤57 then some (!true) else if n=46 then some (!true) else if n=45 then some (!true) else some (!(n==95)) else if n=46 then some (!true) else if n=45 then some (!true) else some (!(n==95)) else if 48≤n then if n≤57 then some (!true) else if n=46 then some (!true) else if n=45 then some (!true) else some (!(n==95)) else if n=46 then some (!true) else if n=45 then some (!true) else some (!(n==95))).bind g)=g (!okN n):=by
   intro β g
   rw [show (if 97≤n then if n≤122 then some (!true) else if 48≤n then if n≤57 then some (!true) else if n=46 then some (!true) else if n=45 then some (!true) else some (!(n==95)) else if n=46 then some (!true) else if n=45 then some (!true) else some (!(n==95)) else if 48≤n then if n≤57 then some (!true) else if n=46 then some (!true) else if n=45 then some (!true) else some (!(n==95)) else if n=46 then some (!true) else if n=45 then some (!true) else some (!(n==95)))=some (!okN n) by
    unfold okN
    repeat' split
    all_goals
     congr 1
     rw [Bool.eq_iff_iff]
     simp
     try omega]
   rfl
  rw [key]
  cases okN n<;>rfl
theorem ZzB (n:Nat):decide ((1:Int)≤(n:Int))=decide (1≤n):=by rw [Bool.eq_iff_iff];simp;omega
theorem Zye (n:Nat):decide ((n:Int)≤10)=decide (n≤10):=by rw [Bool.eq_iff_iff];simp;omega
theorem ZuZ (n:Nat):decide ((n:Int)≤4)=decide (n≤4):=by rw [Bool.eq_iff_iff];simp;omega
theorem ZpH (l:List Str) (hl:l.length≤1099511627000) (hx:∀p,p∈l→p.length≤1099511627000):∀k i,i+k=l.length→Zap.l1 (k+1) ((i:Int),l)=some (if (l.drop i).all part then .inl l else .inr false):=by
 intro k
 induction k with
 | zero=>
  intro i hi
  rw [Zap.l1.succ]
  simp only [Zap.l1.step]
  rw [ZaQ (by omega),List.drop_eq_nil_of_le (by omega)]
  rfl
 | succ k ih=>
  intro i hi
  have hil:i<l.length:=by omega
  have hg:l.getD i []=l[i]:=by simp [List.getD,hil]
  have hd:l.drop i=l[i]::l.drop (i+1):=List.drop_eq_getElem_cons hil
  have hm:=hx l[i] (List.getElem_mem hil)
  rw [Zap.l1.succ]
  simp only [Zap.l1.step,Int.toNat_natCast]
  rw [Zab _ (Zaw hil),ZaP hil,cond_true,hg,ZaA]
  have h0:=ZpI l[i] (i:Int) l hm l[i].length 0 (by omega)
  rw [show ((0:Nat):Int)=0 from rfl] at h0
  rw [h0,List.drop_zero,hd,List.all_cons]
  unfold part
  cases h1:l[i].all okC with
  | false=>rfl
  | true=>
   simp only [if_true,Option.bind_some,ZAC,ZzB,Zye,Bool.true_and]
   have hn:=ih (i+1) (by omega)
   rw [Zda (by omega),hn]
   unfold part
   cases decide (1≤l[i].length)<;>cases decide (l[i].length≤10)<;>cases (l[i]==[46])<;>cases (l[i]==[46,46])<;>rfl
theorem Zjf (b:UInt8):∀(s:Str) (p:Str),p∈ZbF b s→p.length≤s.length
 | [],p,h=>by simp [ZbF] at h;subst h;simp
 | c::s,p,h=>by
  have ih:=Zjf b s
  simp only [ZbF] at h
  split at h
  ·cases h with
   | head=>simp
   | tail _ h=>have:=ih p h;simp;omega
  ·cases hc:ZbF b s with
   | nil=>rw [hc] at h;simp at h;subst h;simp
   | cons q r=>
    rw [hc] at h
    cases h with
    | head=>have:=ih q (by rw [hc];simp);simp;omega
    | tail _ h=>have:=ih p (by rw [hc];exact List.mem_cons_of_mem _ h);simp;omega
def Zdd (s:Str):Bool:=(ZbF 47 s).all part&&decide ((ZbF 47 s).length≤4)
theorem Zjr (s:Str) (hs:s.length≤1048576):Zap s=some (Zdd s):=by
 unfold Zap
 rw [Zaf (by omega) (by omega),Zzp s (by omega)]
 simp only [Option.bind_some]
 have hl:=Zj1 47 s
 have h:=ZpH (ZbF 47 s) (by omega) (fun p hp=>by have:=Zjf 47 s p hp;omega) (ZbF 47 s).length 0 (by omega)
 rw [show ((0:Nat):Int)=0 from rfl] at h
 rw [ZaA,h,List.drop_zero]
 unfold Zdd
 cases h1:(ZbF 47 s).all part with
 | false=>rfl
 | true=>simp only [if_true,Option.bind_some,ZuZ,Bool.true_and]
end Ev
end
section
namespace Ev
open Go
theorem Ziu {α:Type} {p q:α→Bool}:∀{l:List α},(∀x,x∈l→p x=q x)→l.find? p=l.find? q
 | [],_=>rfl
 | x::l,h=>by
  rw [List.find?_cons,List.find?_cons,h x (by simp),Ziu fun y hy=>h y (by simp [hy])]
theorem ZgH (p:UInt8→Bool):∀(s:Str) (k:Nat),((List.range' k s.length).find? fun i=>p (s.getD (i-k) 0))=(s.findIdx? p).map (· + k)
 | [],k=>by simp
 | c::s,k=>by
  have ih:=ZgH p s (k+1)
  rw [List.length_cons,List.range'_succ,List.find?_cons,Nat.sub_self,List.findIdx?_cons]
  cases h:p c with
  | true=>simp [h]
  | false=>
   simp only [List.getD_cons_zero,h]
   have e:((List.range' (k+1) s.length).find? fun i=>p ((c::s).getD (i-k) 0))=((List.range' (k+1) s.length).find? fun i=>p (s.getD (i-(k+1)) 0)):=by
    apply Ziu
    intro i hi
    rw [List.mem_range'] at hi
    obtain ⟨j,hj,rfl⟩:=hi
    rw [show k+1+1*j-k=j+1 by omega,show k+1+1*j-(k+1)=j by omega,List.getD_cons_succ]
   rw [e,ih]
   cases s.findIdx? p<;>simp;omega
theorem ZAF (s:Str):idxB s 47=match s.findIdx? (· == 47) with | some i=>(i:Int) | none=>-1:=by
 unfold idxB firstIdx
 have h:=ZgH (· == 47) s 0
 have e:((List.range (⟨s.toArray⟩:ByteArray).size).find? fun i=>(⟨s.toArray⟩:ByteArray)[i]! == (47:Int).toNat.toUInt8)=s.findIdx? (· == 47):=by
  rw [List.range_eq_range']
  have hsz:(⟨s.toArray⟩:ByteArray).size=s.length:=by simp [ByteArray.size]
  rw [hsz]
  rw [show (s.findIdx? (· == 47))=(s.findIdx? (· == 47)).map (· + 0) by simp,←h]
  apply Ziu
  intro i hi
  rw [List.mem_range'] at hi
  obtain ⟨j,hj,rfl⟩:=hi
  have hj':j<s.length:=hj
  rw [show 0+1*j=j by omega]
  have:(⟨s.toArray⟩:ByteArray)[j]! = s.getD j 0:=by
   have hj2:j<(⟨s.toArray⟩:ByteArray).size:=by rw [hsz];exact hj'
   rw [getElem!_pos (⟨s.toArray⟩:ByteArray) j hj2]
   show s.toArray[j]=s.getD j 0
   simp [List.getD,hj']
  rw [this];rfl
 rw [e]
 cases s.findIdx? (· == 47)<;>rfl
end Ev
end
section
namespace Ev
open Go
theorem Zk2:∀{s:Str},s.findIdx? (· == 47)=none→ZbF 47 s=[s]
 | [],_=>rfl
 | c::s,h=>by
  rw [List.findIdx?_cons] at h
  cases hc:(c==(47:UInt8)) with
  | true=>rw [hc] at h;simp at h
  | false=>
   rw [hc] at h
   have ih:=Zk2 (s:=s) (by simpa using h)
   simp only [ZbF,if_neg (beq_eq_false_iff_ne.1 hc),ih]
theorem Zk1:∀{s:Str} {m:Nat},s.findIdx? (· == 47)=some m→m<s.length∧ZbF 47 s=s.take m::ZbF 47 (s.drop (m+1))
 | [],m,h=>by simp at h
 | c::s,m,h=>by
  rw [List.findIdx?_cons] at h
  cases hc:(c==(47:UInt8)) with
  | true=>
   rw [hc] at h
   simp at h;subst h
   have:=beq_iff_eq.1 hc
   subst this
   exact ⟨by simp,by simp [ZbF]⟩
  | false=>
   rw [hc] at h
   simp only [cond_false,Bool.false_eq_true,if_false,Option.map_eq_some_iff] at h
   obtain ⟨m',h',rfl⟩:=h
   obtain ⟨a,b⟩:=Zk1 h'
   refine ⟨by simp;omega,?_⟩
   simp only [ZbF,if_neg (beq_eq_false_iff_ne.1 hc),b,List.take_succ_cons,List.drop_succ_cons]
theorem ZnB:∀(s:Str) (n:Int),s.foldl (fun (n:Int) x=>if x==47 then n+1 else n) n=n+((ZbF 47 s).length-1)
 | [],n=>by simp [ZbF]
 | c::s,n=>by
  rw [List.foldl_cons,ZnB s]
  have hne:=Zfa 47 s
  have hpos:1≤(ZbF 47 s).length:=by cases h:ZbF 47 s with
   | nil=>exact absurd h hne
   | cons _ _=>simp
  by_cases hc:c=47
  ·subst hc
   simp [ZbF];omega
  ·rw [beq_eq_false_iff_ne.2 hc]
   simp only [ZbF,if_neg hc]
   cases h:ZbF 47 s with
   | nil=>exact absurd h hne
   | cons q r=>simp
theorem ZAL (s:Str):cntB s 47=(ZbF 47 s).length-1:=by
 unfold cntB
 rw [Go.Lib.foldl_data]
 have:=ZnB s 0
 rw [Int.zero_add] at this
 exact this
theorem ZxS (s:Str):Zgr s=some (match s.findIdx? (· == 47) with | some i=>(i:Int) | none=>-1):=by
 unfold Zgr Zdt Zbm Zb3
 simp only [Option.bind_some,ZAF]
 by_cases h:([47]:Str)=s
 ·subst h;rfl
 ·rw [beq_eq_false_iff_ne.2 h];rfl
theorem Zsc:∀k i (s2:Str) (done:List Str),s2.length≤1048576→(ZbF 47 s2).length=k+1→done.length=i→i+k≤2000000→
  ∃s3,Zbj.l0 (k+1) (s2,((i+k:Nat):Int),(i:Int),done++List.replicate (k+1) ([]:Str))=some (s3,((i+k:Nat):Int),done++((ZbF 47 s2).dropLast++[[]]))∧(ZbF 47 s2).getLast? = some s3:=by
 intro k
 induction k with
 | zero=>
  intro i s2 done hs hc hd hi
  rw [Zbj.l0.succ]
  simp only [Zbj.l0.step]
  rw [ZaQ (by omega),cond_false]
  cases h:ZbF 47 s2 with
  | nil=>rw [h] at hc;simp at hc
  | cons q r=>
   rw [h] at hc
   have hr:r=[]:=List.eq_nil_of_length_eq_zero (by simpa using hc)
   subst hr
   have hq:q=s2:=by
    cases hf:s2.findIdx? (· == 47) with
    | none=>rw [Zk2 hf] at h;simpa using h.symm
    | some m=>
     rw [(Zk1 hf).2] at h
     have:=Zfa 47 (s2.drop (m+1))
     simp at h;exact absurd h.2 this
   subst hq
   exact ⟨q,by simp,by simp⟩
 | succ k ih=>
  intro i s2 done hs hc hd hi
  rw [Zbj.l0.succ]
  simp only [Zbj.l0.step,ZxS,Option.bind_some]
  rw [ZaP (by omega),cond_true]
  cases hf:s2.findIdx? (· == 47) with
  | none=>rw [Zk2 hf] at hc;simp at hc
  | some m=>
   obtain ⟨hm,hcut⟩:=Zk1 hf
   rw [hcut] at hc ⊢
   have hc':(ZbF 47 (s2.drop (m+1))).length=k+1:=by simpa using hc
   simp only []
   rw [show decide ((m:Int)<0)=false from decide_eq_false (by omega),cond_false,Int.add_zero,Zaf (n:=(m:Int)) (by omega) (by omega),Zab _ (ZiQ (by omega)),Int.toNat_natCast,
    Zda (by omega),Zab _ (ZiQ (by omega)),Zab _ (Zaw (by simp;omega)),Zda (by omega),Int.toNat_natCast,Int.toNat_natCast]
   have e:(done++List.replicate (k+1+1) ([]:Str)).set i (s2.take m)=(done++[s2.take m])++List.replicate (k+1) ([]:Str):=by
    rw [List.set_append,if_neg (by omega),hd,Nat.sub_self,List.replicate_succ,List.set_cons_zero];simp
   rw [e]
   obtain ⟨s3,h1,h2⟩:=ih (i+1) (s2.drop (m+1)) (done++[s2.take m]) (by simp;omega) hc' (by simp [hd]) (by omega)
   refine ⟨s3,?_,?_⟩
   ·rw [show i+(k+1)=i+1+k by omega,h1]
    cases hq:ZbF 47 (s2.drop (m+1)) with
    | nil=>exact absurd hq (Zfa _ _)
    | cons a b=>simp
   ·cases hq:ZbF 47 (s2.drop (m+1)) with
    | nil=>exact absurd hq (Zfa _ _)
    | cons a b=>rw [hq] at h2;rw [List.getLast?_cons_cons];exact h2
theorem Zxh {a b:Int} (h:a≤b):ZqB a b=a:=by unfold ZqB;rw [if_neg (by omega)]
theorem Zsd (s:Str) (hs:s.length≤1048576):Zbj s=some (ZbF 47 s):=by
 have hlen:=Zj1 47 s
 have hpos:1≤(ZbF 47 s).length:=by cases h:ZbF 47 s with
  | nil=>exact absurd h (Zfa 47 s)
  | cons _ _=>simp
 obtain ⟨k,hk⟩:∃k,(ZbF 47 s).length=k+1:=⟨(ZbF 47 s).length-1,by omega⟩
 unfold Zbj Zg2 ZdO
 simp only [Option.bind_some,ZAL,hk]
 rw [show (((k+1:Nat):Int)-1)=(k:Int) by omega,Zaf (n:=(k:Int)+1) (by omega) (by omega),Zaf (n:=(s.length:Int)+1) (by omega) (by omega),Zxh (by omega),
  Zaf (n:=(k:Int)+1-1) (by omega) (by omega),show ((k:Int)+1).toNat=k+1 by omega,show ((k:Int)+1-1)=(k:Int) by omega,ZaA]
 rw [Zab _ (by simp;exact ⟨by omega,Ze5 (by omega)⟩)]
 obtain ⟨s3,h1,h2⟩:=Zsc k 0 s [] hs hk rfl (by omega)
 simp only [Nat.zero_add,List.nil_append] at h1
 rw [show ((0:Nat):Int)=0 from rfl] at h1
 rw [h1]
 simp only [Option.bind_some,Int.toNat_natCast]
 have hdl:(ZbF 47 s).dropLast.length=k:=by simp [hk]
 have hset:((ZbF 47 s).dropLast++[([]:Str)]).set k s3=ZbF 47 s:=by
  rw [List.set_append,if_neg (by omega),hdl,Nat.sub_self,List.set_cons_zero]
  obtain ⟨ys,hy⟩:=List.getLast?_eq_some_iff.1 h2
  rw [hy];simp
 have hn:w64 ((k:Int)+1)=((k+1:Nat):Int):=Zda (by omega)
 rw [Zab _ (Zaw (by simp;omega))]
 simp only [hset,hn,Int.toNat_natCast]
 rw [Zab _ (ZiQ (by omega)),List.drop_zero,List.take_of_length_le (by omega)]
theorem ZwO (s:Str) (hs:s.length≤1048576):Zgi s=some (ZbF 47 s):=by
 unfold Zgi
 rw [Zsd s hs];rfl
theorem Zp6 (l:List Str) (hl:l.length≤1099511627000) (hx:∀p,p∈l→p.length≤1099511627000):∀k i,i+k=l.length→ZaN.l0 (k+1) (l,l,(l.length:Int),(i:Int))=some (if (l.drop i).all part then .inl l else .inr false):=by
 intro k
 induction k with
 | zero=>
  intro i hi
  rw [ZaN.l0.succ]
  simp only [ZaN.l0.step]
  rw [ZaQ (by omega),List.drop_eq_nil_of_le (by omega)]
  rfl
 | succ k ih=>
  intro i hi
  have hil:i<l.length:=by omega
  have hg:l.getD i []=l[i]:=by simp [List.getD,hil]
  have hd:l.drop i=l[i]::l.drop (i+1):=List.drop_eq_getElem_cons hil
  have hm:=hx l[i] (List.getElem_mem hil)
  rw [ZaN.l0.succ]
  simp only [ZaN.l0.step,Int.toNat_natCast]
  rw [Zab _ (Zaw hil),ZaP hil,cond_true,hg,ZwY _ hm,hd,List.all_cons,Zda (by omega)]
  simp only [Option.bind_some]
  cases part l[i] with
  | false=>rfl
  | true=>simp only [Bool.not_true,cond_false,Bool.true_and];exact ih (i+1) (by omega)
theorem ZjO (s:Str) (hs:s.length≤1048576):ZaN s=some (Zdd s):=by
 unfold ZaN
 rw [ZwO s hs]
 simp only [Option.bind_some]
 have hl:=Zj1 47 s
 have h:=Zp6 (ZbF 47 s) (by omega) (fun p hp=>by have:=Zjf 47 s p hp;omega) (ZbF 47 s).length 0 (by omega)
 rw [show ((0:Nat):Int)=0 from rfl] at h
 rw [ZaA,h,List.drop_zero]
 unfold Zdd
 cases h1:(ZbF 47 s).all part with
 | false=>rfl
 | true=>simp only [if_true,Option.bind_some,ZuZ,Bool.true_and]
end Ev
end
section
namespace Ev
open Go
theorem ZAB {n m k:Nat} (hn:n<256^k) (hm:m<256^k) (h:leB n k=leB m k):n=m:=by
 have:=congrArg leV h
 rwa [Ztv,Ztv,Nat.mod_eq_of_lt hn,Nat.mod_eq_of_lt hm] at this
theorem ZgG (s:Str) (a k:Nat) (h:a+k≤s.length):(s.drop a).take k=leB (leN s a k) k:=by
 have hl:((s.drop a).take k).length=k:=by rw [List.length_take,List.length_drop];omega
 have:=ZxB ((s.drop a).take k)
 rw [hl] at this
 exact this.symm
theorem Ze7 (s:Str) (a k:Nat):s.take (a+k)=s.take a++(s.drop a).take k:=by
 rw [List.take_add]
def Zr6 (how stamp crc packed long name:Nat):Str:=
 leB 67324752 4++leB 20 2++leB 0 2++leB how 2++leB stamp 4++leB crc 4++leB packed 4++leB long 4++leB name 2++leB 0 2
theorem take30 (s:Str) (h:30≤s.length):s.take 30=leB (leN s 0 4) 4++leB (leN s 4 2) 2++leB (leN s 6 2) 2++leB (leN s 8 2) 2++leB (leN s 10 4) 4++leB (leN s 14 4) 4++leB (leN s 18 4) 4++leB (leN s 22 4) 4++leB (leN s 26 2) 2++leB (leN s 28 2) 2:=by
 rw [←ZgG s 0 4 (by omega),←ZgG s 4 2 (by omega),←ZgG s 6 2 (by omega),←ZgG s 8 2 (by omega),←ZgG s 10 4 (by omega),←ZgG s 14 4 (by omega),←ZgG s 18 4 (by omega),←ZgG s 22 4 (by omega),←ZgG s 26 2 (by omega),←ZgG s 28 2 (by omega)]
 rw [show s.take 30=s.take (28+2) from rfl,Ze7 s 28 2,show s.take 28=s.take (26+2) from rfl,Ze7 s 26 2,show s.take 26=s.take (22+4) from rfl,Ze7 s 22 4,show s.take 22=s.take (18+4) from rfl,Ze7 s 18 4,
  show s.take 18=s.take (14+4) from rfl,Ze7 s 14 4,show s.take 14=s.take (10+4) from rfl,Ze7 s 10 4,show s.take 10=s.take (8+2) from rfl,Ze7 s 8 2,show s.take 8=s.take (6+2) from rfl,Ze7 s 6 2,
  show s.take 6=s.take (4+2) from rfl,Ze7 s 4 2,show s.take 4=s.take (0+4) from rfl,Ze7 s 0 4,List.take_zero,List.nil_append]
theorem Zht {a b c d:Str} (hl:a.length=c.length):a++b=c++d↔a=c∧b=d:=by
 constructor
 ·intro h;exact List.append_inj h hl
 ·rintro ⟨rfl,rfl⟩;rfl
theorem Zp8 (s:Str) (h:30≤s.length) (how stamp crc packed long name:Nat) (h1:how<65536) (h2:stamp<4294967296) (h3:crc<4294967296) (h4:packed<4294967296) (h5:long<4294967296) (h6:name<65536) :
  Zr6 how stamp crc packed long name=s.take 30↔leN s 0 4=67324752∧leN s 4 2=20∧leN s 6 2=0∧leN s 8 2=how∧leN s 10 4=stamp∧leN s 14 4=crc∧leN s 18 4=packed∧leN s 22 4=long∧leN s 26 2=name∧leN s 28 2=0:=by
 have two:∀a,leN s a 2<256^2:=fun a=>ZgV s a 2
 have four:∀a,leN s a 4<256^4:=fun a=>ZgV s a 4
 have inj:∀{n m k:Nat},n<256^k→m<256^k→(leB n k=leB m k↔m=n):=fun hn hm=>⟨fun h=>(ZAB hn hm h).symm,fun h=>by rw [h]⟩
 rw [take30 s h]
 unfold Zr6
 rw [Zht (by simp only [List.length_append,ZaM]),Zht (by simp only [List.length_append,ZaM]),Zht (by simp only [List.length_append,ZaM]),Zht (by simp only [List.length_append,ZaM]),Zht (by simp only [List.length_append,ZaM]),
  Zht (by simp only [List.length_append,ZaM]),Zht (by simp only [List.length_append,ZaM]),Zht (by simp only [List.length_append,ZaM]),Zht (by simp only [List.length_append,ZaM])]
 rw [inj (by omega) (four 0),inj (by omega) (two 4),inj (by omega) (two 6),inj (by omega) (two 8),inj (by omega) (four 10),inj (by omega) (four 14),inj (by omega) (four 18),inj (by omega) (four 22),inj (by omega) (two 26),inj (by omega) (two 28)]
 simp only [and_assoc]
theorem Zk0 (name:Str) (hn:name.length≤1048576) (y mo d h mi sec:Int) (text:Str):ZbE name y mo d h mi sec text=some (Zdd name&&(stM y mo d h mi sec&&decide (text.length≤300))):=by
 unfold ZbE
 rw [ZjO name hn]
 simp only [Zaa]
 rw [Zkq]
 simp only [Zaa]
 have e:decide ((text.length:Int)≤300)=decide (text.length≤300):=by
  by_cases h:text.length≤300
  ·rw [decide_eq_true h,decide_eq_true (by omega)]
  ·rw [decide_eq_false h,decide_eq_false (by omega)]
 rw [e]
 cases Zdd name<;>cases stM y mo d h mi sec<;>rfl
theorem ZgC (name:Str) (hn:name.length≤1048576) (y mo d h mi sec:Int) (text:Str):ZaL name y mo d h mi sec text=some (Zdd name&&(stM y mo d h mi sec&&decide (text.length≤300))):=by
 unfold ZaL
 rw [Zjr name hn]
 simp only [Zaa]
 rw [ZnW]
 simp only [Zaa]
 have e:decide ((text.length:Int)≤300)=decide (text.length≤300):=by
  by_cases h:text.length≤300
  ·rw [decide_eq_true h,decide_eq_true (by omega)]
  ·rw [decide_eq_false h,decide_eq_false (by omega)]
 rw [e]
 cases Zdd name<;>cases stM y mo d h mi sec<;>rfl
theorem Zm8 (name:Str) (hn:name.length≤1048576) {y mo d h mi sec:Nat} (hk:stM y mo d h mi sec=true) (text:Str) (ht:text.length≤1048576) (how packed:Nat) (hh:how≤65535) (hp:packed≤4294967295) :
  Zea name y mo d h mi sec text how packed=some (Zr6 how (stN y mo d h mi sec) (Zqn text) packed text.length name.length):=by
 have hst:=(ZpD hk).2
 have hcr:=ZgI text
 have n20:=Zcy 20 2 (by omega) (by omega)
 have n0:=Zcy 0 2 (by omega) (by omega)
 have n1:=Zcy how 2 (by omega) (by omega)
 have n2:=Zcy (stN y mo d h mi sec) 4 (by omega) (by omega)
 have n3:=Zcy (Zqn text) 4 (by omega) (by omega)
 have n4:=Zcy packed 4 (by omega) (by omega)
 have n5:=Zcy text.length 4 (by omega) (by omega)
 have n6:=Zcy name.length 2 (by omega) (by omega)
 rw [show ((20:Nat):Int)=20 from rfl,show ((2:Nat):Int)=2 from rfl] at n20
 rw [show ((0:Nat):Int)=0 from rfl,show ((2:Nat):Int)=2 from rfl] at n0
 rw [show ((2:Nat):Int)=2 from rfl] at n1 n6
 rw [show ((4:Nat):Int)=4 from rfl] at n2 n3 n4 n5
 have L:∀n k,(leB n k).length=k:=ZaM
 have mark:([80,75,3,4]:Str)=leB 67324752 4:=by decide
 unfold Zea
 rw [n20,n0,mark]
 simp only [Zaa]
 rw [Zad (by simp only [List.length_append,L];omega),Zad (by simp only [List.length_append,L];omega),n1]
 simp only [Zaa]
 rw [Zad (by simp only [List.length_append,L];omega),Zmn hk]
 simp only [Zaa]
 rw [n2]
 simp only [Zaa]
 rw [Zad (by simp only [List.length_append,L];omega),Zz7 text (by omega)]
 simp only [Zaa]
 rw [n3]
 simp only [Zaa]
 rw [Zad (by simp only [List.length_append,L];omega),n4]
 simp only [Zaa]
 rw [Zad (by simp only [List.length_append,L];omega),n5]
 simp only [Zaa]
 rw [Zad (by simp only [List.length_append,L];omega),n6]
 simp only [Zaa]
 rw [Zad (by simp only [List.length_append,L];omega),Zad (by simp only [List.length_append,L];omega)]
 rfl
end Ev
end
section
namespace Ev
open Go
abbrev Fil:=Str×Int×Int×Int×Int×Int×Int×Str
def ZhB (s:Str):Str×Int×Bool:=if 700<s.length then ([],0,false) else Zv3 (ZqC s)
theorem ZzW:∀(f:Nat) (l:List Bool) (out:List Int) {l':List Bool} {o:List Int},mGo f l out=some (l',o)→o.length≤300
 | 0,l,out,l',o,h=>by cases h
 | f+1,l,out,l',o,h=>by
  rw [mGo] at h
  cases hp:ZmJ l out with
  | none=>rw [hp] at h;cases h
  | some p=>
   obtain ⟨b,l1,o1⟩:=p
   rw [hp] at h
   simp only [Option.bind_some] at h
   by_cases h3:300<o1.length
   ·rw [if_pos h3] at h;cases h
   ·rw [if_neg h3] at h
    cases b with
    | true=>
     obtain ⟨_,rfl⟩:=Prod.mk.inj (Option.some.inj h)
     omega
    | false=>exact ZzW f l1 o1 h
theorem Zsg (s:Str):(ZhB s).1.length≤300:=by
 unfold ZhB
 split
 ·simp
 ·unfold ZqC
  cases hg:mGo (8*s.length+1) (ZcQ s) [] with
  | none=>simp [Zv3]
  | some p=>
   obtain ⟨l,o⟩:=p
   have:=ZzW _ _ _ hg
   simp only [Option.bind_some]
   cases Zd0 (some l) with
   | none=>simp [Zv3]
   | some l'=>simp [Zv3,Zcn];exact this
def ZyB (how:Nat) (body:Str):Option Str:=
 if how=0 then some body else if how=8 then (if (ZhB body).2.2=true∧(ZhB body).2.1=(body.length:Int) then some (ZhB body).1 else none) else none
def Zts (s t:Str):Prop:=Zdd ((s.drop 30).take (leN s 26 2))=true∧stM (stG (leN s 10 4)).y (stG (leN s 10 4)).mo (stG (leN s 10 4)).d (stG (leN s 10 4)).h (stG (leN s 10 4)).mi (stG (leN s 10 4)).sec=true∧t.length≤300∧
    leN s 0 4=67324752∧leN s 4 2=20∧leN s 6 2=0∧leN s 28 2=0∧leN s 14 4=Zqn t∧leN s 22 4=t.length
instance (s t:Str):Decidable (Zts s t):=by unfold Zts;infer_instance
def ZhW (s:Str):Option (Fil×Nat):=
 if s.length<30 then none else if s.length<30+leN s 26 2+leN s 18 4 then none else
  match ZyB (leN s 8 2) ((s.drop (30+leN s 26 2)).take (leN s 18 4)) with
  | none=>none
  | some t=>if Zts s t then
    some (((s.drop 30).take (leN s 26 2),((stG (leN s 10 4)).y:Int),((stG (leN s 10 4)).mo:Int),((stG (leN s 10 4)).d:Int),((stG (leN s 10 4)).h:Int),((stG (leN s 10 4)).mi:Int),((stG (leN s 10 4)).sec:Int),t),30+leN s 26 2+leN s 18 4)
   else none
def ZzY:Option (Fil×Nat)→Str×Int×Int×Int×Int×Int×Int×Str×Int×Bool
 | none=>([],0,0,0,0,0,0,[],0,false)
 | some (e,n)=>(e.1,e.2.1,e.2.2.1,e.2.2.2.1,e.2.2.2.2.1,e.2.2.2.2.2.1,e.2.2.2.2.2.2.1,e.2.2.2.2.2.2.2,(n:Int),true)
theorem Zv7 (s:Str):Zbf s=some (ZhB s):=Znj s
theorem ZnY (s:Str):Zba s=some (ZhB s):=ZhP s
theorem Zs5 {P:Prop} [Decidable P] (h:¬P):some true=some (!decide P):=by rw [decide_eq_false h];rfl
theorem ZAk {P:Prop} [Decidable P] (h:P):some false=some (!decide P):=by rw [decide_eq_true h];rfl
theorem ZzH (s:Str) (h30:30≤s.length) (hs:s.length≤1048576) (hbig:30+leN s 26 2+leN s 18 4≤s.length) (y mo d h mi sec:Int) (t:Str) (ht:t.length≤1048576)
  (hg:(y,mo,d,h,mi,sec)=if stM (stG (leN s 10 4)).y (stG (leN s 10 4)).mo (stG (leN s 10 4)).d (stG (leN s 10 4)).h (stG (leN s 10 4)).mi (stG (leN s 10 4)).sec then
   (((stG (leN s 10 4)).y:Int),((stG (leN s 10 4)).mo:Int),((stG (leN s 10 4)).d:Int),((stG (leN s 10 4)).h:Int),((stG (leN s 10 4)).mi:Int),((stG (leN s 10 4)).sec:Int)) else (0,0,0,0,0,0)) :
  ((ZbE ((s.drop 30).take (leN s 26 2)) y mo d h mi sec t).bind fun EntryOk=>(bif (!EntryOk) then (some true) else
   ((Zea ((s.drop 30).take (leN s 26 2)) y mo d h mi sec t (leN s 8 2:Int) (leN s 18 4:Int)).bind fun headOf_=>(need (decide (0≤(30:Int))&&decide ((30:Int)≤s.length)) (some (!(headOf_==(s.take 30)))))))) =
  some (!decide (Zts s t)):=by
 have two:∀a,leN s a 2<256^2:=fun a=>ZgV s a 2
 have four:∀a,leN s a 4<256^4:=fun a=>ZgV s a 4
 have t26:=two 26
 have t8:=two 8
 have f18:=four 18
 have f10:=four 10
 have hnl:((s.drop 30).take (leN s 26 2)).length=leN s 26 2:=by rw [List.length_take,List.length_drop];omega
 rw [Zk0 _ (by omega)]
 simp only [Zaa]
 cases hst:stM (stG (leN s 10 4)).y (stG (leN s 10 4)).mo (stG (leN s 10 4)).d (stG (leN s 10 4)).h (stG (leN s 10 4)).mi (stG (leN s 10 4)).sec with
 | false=>
  rw [hst] at hg
  obtain ⟨rfl,hg'⟩:=Prod.mk.inj hg
  have:stM 0 mo d h mi sec=false:=by unfold stM;rw [decide_eq_false (by omega)];rfl
  rw [this,Bool.false_and,Bool.and_false,Bool.not_false,cond_true]
  exact Zs5 (P:=Zts s t) (fun q=>absurd q.2.1 (by rw [hst];simp))
 | true=>
  rw [hst] at hg
  simp only [if_true] at hg
  obtain ⟨g1,hg1⟩:=Prod.mk.inj hg
  obtain ⟨g2,hg2⟩:=Prod.mk.inj hg1
  obtain ⟨g3,hg3⟩:=Prod.mk.inj hg2
  obtain ⟨g4,hg4⟩:=Prod.mk.inj hg3
  obtain ⟨g5,g6⟩:=Prod.mk.inj hg4
  clear hg hg1 hg2 hg3 hg4
  subst g1 g2 g3 g4 g5 g6
  rw [hst,Bool.true_and]
  by_cases hA:Zdd ((s.drop 30).take (leN s 26 2))=true∧t.length≤300
  ·rw [hA.1,decide_eq_true hA.2]
   simp only [Bool.and_self,Bool.not_true,cond_false]
   rw [Zm8 _ (by omega) hst t ht _ _ (by omega) (by omega),ZwM _ (by omega)]
   simp only [Zaa]
   rw [Zab _ (by simp;omega)]
   have hi:=Zp8 s h30 (leN s 8 2) (leN s 10 4) (Zqn t) (leN s 18 4) t.length (leN s 26 2) (by omega) (by omega) (ZgI t) (by omega) (by omega) (by omega)
   rw [hnl]
   by_cases he:Zr6 (leN s 8 2) (leN s 10 4) (Zqn t) (leN s 18 4) t.length (leN s 26 2)=s.take 30
   ·obtain ⟨q1,q2,q3,q4,q5,q6,q7,q8,q9,q10⟩:=hi.1 he
    rw [he,show (s.take 30==s.take 30)=true from beq_self_eq_true _]
    exact ZAk (P:=Zts s t) ⟨hA.1,hst,hA.2,q1,q2,q3,q10,q6,q8⟩
   ·rw [beq_false_of_ne he]
    refine Zs5 (P:=Zts s t) ?_
    rintro ⟨_,_,_,q1,q2,q3,q10,q6,q8⟩
    exact he (hi.2 ⟨q1,q2,q3,rfl,rfl,q6,rfl,q8,rfl,q10⟩)
  ·have:(Zdd ((s.drop 30).take (leN s 26 2))&&decide (t.length≤300))=false:=by
    cases hn:Zdd ((s.drop 30).take (leN s 26 2)) with
    | false=>rfl
    | true=>rw [decide_eq_false (fun q=>hA ⟨hn,q⟩)];rfl
   rw [this,Bool.not_false,cond_true]
   exact Zs5 (P:=Zts s t) (fun q=>hA ⟨q.1,q.2.2.1⟩)
end Ev
end
section
namespace Ev
open Go
set_option maxRecDepth 100000 in
theorem Ztp (s:Str) (hs:s.length≤1048576):ZdG s=some (ZzY (ZhW s)):=by
 unfold ZdG ZhW
 by_cases h30:s.length<30
 ·rw [if_pos h30,decide_eq_true (by omega),cond_true];rfl
 rw [if_neg h30,decide_eq_false (by omega),cond_false]
 have two:∀a,leN s a 2<256^2:=fun a=>ZgV s a 2
 have four:∀a,leN s a 4<256^4:=fun a=>ZgV s a 4
 have t26:=two 26
 have t8:=two 8
 have f18:=four 18
 have f10:=four 10
 have n8:=ZfZ s 8 2 (by omega) (by omega) (by omega) (by omega)
 have n18:=ZfZ s 18 4 (by omega) (by omega) (by omega) (by omega)
 have n26:=ZfZ s 26 2 (by omega) (by omega) (by omega) (by omega)
 have n10:=ZfZ s 10 4 (by omega) (by omega) (by omega) (by omega)
 rw [show ((8:Nat):Int)=8 from rfl,show ((2:Nat):Int)=2 from rfl] at n8
 rw [show ((18:Nat):Int)=18 from rfl,show ((4:Nat):Int)=4 from rfl] at n18
 rw [show ((26:Nat):Int)=26 from rfl,show ((2:Nat):Int)=2 from rfl] at n26
 rw [show ((10:Nat):Int)=10 from rfl,show ((4:Nat):Int)=4 from rfl] at n10
 have hl:(s.drop 30).length=s.length-30:=List.length_drop
 rw [n8]
 simp only [Zaa]
 rw [n18]
 simp only [Zaa]
 rw [n26]
 simp only [Zaa]
 rw [Zab _ (by simp;omega),hl]
 by_cases hbig:s.length<30+leN s 26 2+leN s 18 4
 ·rw [if_pos hbig]
  have hc:(bif decide (((s.length-30:Nat):Int)<((leN s 26 2:Nat):Int)) then some true else some (decide (w64 (((s.length-30:Nat):Int)-((leN s 26 2:Nat):Int))<((leN s 18 4:Nat):Int))))=some true:=by
   by_cases c:s.length-30<leN s 26 2
   ·rw [decide_eq_true (by omega)];rfl
   ·rw [decide_eq_false (by omega),cond_false,Zaf (by omega) (by omega),decide_eq_true (by omega)]
  rw [hc]
  rfl
 rw [if_neg hbig,decide_eq_false (by omega),cond_false,Zaf (n:=((s.length-30:Nat):Int)-((leN s 26 2:Nat):Int)) (by omega) (by omega),decide_eq_false (by omega)]
 simp only [Zaa,cond_false]
 rw [Zaf (n:=((leN s 26 2:Nat):Int)+((leN s 18 4:Nat):Int)) (by omega) (by omega),show ((leN s 26 2:Nat):Int)+((leN s 18 4:Nat):Int)=((leN s 26 2+leN s 18 4:Nat):Int) by omega]
 rw [Zab _ (by simp;omega),Zab _ (by simp;omega),Zab _ (by simp;omega),n10]
 simp only [Zaa]
 rw [Zs3 _ (by omega)]
 have hbody:(((s.drop 30).take (leN s 26 2+leN s 18 4)).drop (leN s 26 2))=(s.drop (30+leN s 26 2)).take (leN s 18 4):=by
  rw [List.drop_take,List.drop_drop];congr 1;omega
 rw [Int.toNat_natCast,Int.toNat_natCast,hbody]
 have hbl:((s.drop (30+leN s 26 2)).take (leN s 18 4)).length=leN s 18 4:=by rw [List.length_take,List.length_drop];omega
 obtain ⟨g,hg⟩:∃g:Int×Int×Int×Int×Int×Int,g=if stM (stG (leN s 10 4)).y (stG (leN s 10 4)).mo (stG (leN s 10 4)).d (stG (leN s 10 4)).h (stG (leN s 10 4)).mi (stG (leN s 10 4)).sec then
   (((stG (leN s 10 4)).y:Int),((stG (leN s 10 4)).mo:Int),((stG (leN s 10 4)).d:Int),((stG (leN s 10 4)).h:Int),((stG (leN s 10 4)).mi:Int),((stG (leN s 10 4)).sec:Int)) else (0,0,0,0,0,0):=⟨_,rfl⟩
 obtain ⟨y,mo,d,h,mi,sec⟩:=g
 obtain ⟨b,hb⟩:∃b:Bool,(if stM (stG (leN s 10 4)).y (stG (leN s 10 4)).mo (stG (leN s 10 4)).d (stG (leN s 10 4)).h (stG (leN s 10 4)).mi (stG (leN s 10 4)).sec then
  (((stG (leN s 10 4)).y:Int),((stG (leN s 10 4)).mo:Int),((stG (leN s 10 4)).d:Int),((stG (leN s 10 4)).h:Int),((stG (leN s 10 4)).mi:Int),((stG (leN s 10 4)).sec:Int),true) else (0,0,0,0,0,0,false))=(y,mo,d,h,mi,sec,b):=by
  cases hst:stM (stG (leN s 10 4)).y (stG (leN s 10 4)).mo (stG (leN s 10 4)).d (stG (leN s 10 4)).h (stG (leN s 10 4)).mi (stG (leN s 10 4)).sec with
  | true=>
   rw [hst] at hg
   simp only [if_true] at hg ⊢
   exact ⟨true,by simp only [Prod.mk.injEq] at hg ⊢;simp [hg]⟩
  | false=>
   rw [hst] at hg
   simp only [Bool.false_eq_true,if_false] at hg ⊢
   exact ⟨false,by simp only [Prod.mk.injEq] at hg ⊢;simp [hg]⟩
 rw [hb]
 simp only [Zaa]
 have fin:∀t:Str,t.length≤1048576→
   (((ZbE ((s.drop 30).take (leN s 26 2)) y mo d h mi sec t).bind fun EntryOk=>(bif (!EntryOk) then (some true) else
    ((Zea ((s.drop 30).take (leN s 26 2)) y mo d h mi sec t (leN s 8 2:Int) (leN s 18 4:Int)).bind fun headOf_=>(need (decide (0≤(30:Int))&&decide ((30:Int)≤s.length)) (some (!(headOf_==(s.take 30)))))))).bind fun c2=>
    (bif c2 then (some (([],0,0,0,0,0,0,[],0,false):Str×Int×Int×Int×Int×Int×Int×Str×Int×Bool)) else
     (some ((s.drop 30).take (leN s 26 2),y,mo,d,h,mi,sec,t,(w64 ((w64 (30+((leN s 26 2:Nat):Int)))+((leN s 18 4:Nat):Int))),true)))) =
   some (ZzY (if Zts s t then
    some (((s.drop 30).take (leN s 26 2),((stG (leN s 10 4)).y:Int),((stG (leN s 10 4)).mo:Int),((stG (leN s 10 4)).d:Int),((stG (leN s 10 4)).h:Int),((stG (leN s 10 4)).mi:Int),((stG (leN s 10 4)).sec:Int),t),30+leN s 26 2+leN s 18 4)
   else none)):=by
  intro t ht
  rw [ZzH s (by omega) hs (by omega) y mo d h mi sec t ht hg]
  simp only [Zaa]
  by_cases hp:Zts s t
  ·have hst:=hp.2.1
   rw [hst] at hg
   simp only [if_true,Prod.mk.injEq] at hg
   obtain ⟨g1,g2,g3,g4,g5,g6⟩:=hg
   subst g1 g2 g3 g4 g5 g6
   rw [if_pos hp,decide_eq_true hp,Bool.not_true,cond_false,Zaf (n:=30+((leN s 26 2:Nat):Int)) (by omega) (by omega),Zaf (by omega) (by omega)]
   unfold ZzY
   dsimp only
   congr 9
  ·rw [if_neg hp,decide_eq_false hp];rfl
 by_cases c0:leN s 8 2=0
 ·rw [c0] at fin ⊢
  rw [show (((0:Nat):Int)==0)=true from rfl,cond_true]
  simp only [Zaa]
  exact fin _ (by rw [hbl];omega)
 rw [show (((leN s 8 2:Nat):Int)==0)=false by simp only [beq_eq_false_iff_ne,ne_eq];omega,cond_false]
 by_cases c8:leN s 8 2=8
 ·rw [c8] at fin ⊢
  rw [show (((8:Nat):Int)==8)=true by simp,cond_true,Zv7]
  simp only [Zaa]
  have hle:=Zsg ((s.drop (30+leN s 26 2)).take (leN s 18 4))
  unfold ZyB
  rw [if_neg (by omega),if_pos rfl,hbl]
  generalize ZhB ((s.drop (30+leN s 26 2)).take (leN s 18 4))=R at hle
  obtain ⟨t,n,ok⟩:=R
  dsimp only at hle ⊢
  cases ok with
  | false=>rw [if_neg (by simp)];rfl
  | true=>
   simp only [Bool.not_true,cond_false,Zaa,true_and]
   by_cases hn:n=((leN s 18 4:Nat):Int)
   ·rw [if_pos hn,show (n != ((leN s 18 4:Nat):Int))=false by simp [hn],cond_false]
    simp only [Zaa]
    exact fin t (by omega)
   ·rw [if_neg hn,show (n != ((leN s 18 4:Nat):Int))=true by simp [hn],cond_true];rfl
 ·rw [show (((leN s 8 2:Nat):Int)==8)=false by simp only [beq_eq_false_iff_ne,ne_eq];omega,cond_false]
  unfold ZyB
  rw [if_neg c0,if_neg c8];rfl
end Ev
end
section
namespace Ev
open Go
def Zqw (s:Str) (r:Str×Int×Int×Int×Int×Int×Int×Str×Int×Bool):Prop:=match ZhW s with
 | some p=>r=ZzY (some p)
 | none=>r.2.2.2.2.2.2.2.2.2=false
theorem eqI (a b:Nat):((a:Int)==(b:Int))=decide (a=b):=by
 by_cases h:a=b
 ·subst h;simp
 ·rw [decide_eq_false h];simp;omega
set_option maxRecDepth 100000 in
theorem ZrM (s:Str) (hs:s.length≤1048576):Ret (ZeS s) (Zqw s):=by
 unfold ZeS
 have two:∀a,leN s a 2<256^2:=fun a=>ZgV s a 2
 have four:∀a,leN s a 4<256^4:=fun a=>ZgV s a 4
 have t26:=two 26
 have t8:=two 8
 have f18:=four 18
 have f10:=four 10
 have q:=fun a K (h1:K≤4) (h2:1≤K) (h3:a≤2000000000)=>Zp1 s a K h1 h2 (by omega) h3
 have n26:Zch s 26 2=_:=q 26 2 (by omega) (by omega) (by omega)
 have n18:Zch s 18 4=_:=q 18 4 (by omega) (by omega) (by omega)
 have n0:Zch s 0 4=_:=q 0 4 (by omega) (by omega) (by omega)
 have n4:Zch s 4 2=_:=q 4 2 (by omega) (by omega) (by omega)
 have n6:Zch s 6 2=_:=q 6 2 (by omega) (by omega) (by omega)
 have n28:Zch s 28 2=_:=q 28 2 (by omega) (by omega) (by omega)
 have n10:Zch s 10 4=_:=q 10 4 (by omega) (by omega) (by omega)
 have n8:Zch s 8 2=_:=q 8 2 (by omega) (by omega) (by omega)
 have n14:Zch s 14 4=_:=q 14 4 (by omega) (by omega) (by omega)
 have n22:Zch s 22 4=_:=q 22 4 (by omega) (by omega) (by omega)
 rw [n26,n18,n0,n4,n6,n28,n10,n8,n14,n22]
 simp only [Zaa]
 by_cases h30:s.length<30
 ·have hno:ZhW s=none:=by unfold ZhW;rw [if_pos h30]
  rw [if_neg (show ¬28+2≤s.length by omega),show (((-1:Int))==0)=false from rfl]
  have hh:∀(a b c:Bool),(bif a then bif b then bif c then some false else some false else some false else some false)=some false:=fun a b c=>by cases a<;>cases b<;>cases c<;>rfl
  rw [hh]
  simp only [Zaa,Bool.not_false,cond_true]
  refine .pure ?_
  unfold Zqw
  rw [hno]
 rw [if_pos (show 26+2≤s.length by omega),if_pos (show 18+4≤s.length by omega),if_pos (show 0+4≤s.length by omega),if_pos (show 4+2≤s.length by omega),if_pos (show 6+2≤s.length by omega),if_pos (show 28+2≤s.length by omega),
  if_pos (show 10+4≤s.length by omega),if_pos (show 8+2≤s.length by omega),if_pos (show 14+4≤s.length by omega),if_pos (show 22+4≤s.length by omega)]
 rw [show (67324752:Int)=((67324752:Nat):Int) from rfl,show (((leN s 4 2:Nat):Int)==20)=decide (leN s 4 2=20) from eqI _ 20,show (((leN s 6 2:Nat):Int)==0)=decide (leN s 6 2=0) from eqI _ 0,show (((leN s 28 2:Nat):Int)==0)=decide (leN s 28 2=0) from eqI _ 0,eqI]
 by_cases hd:leN s 0 4=67324752∧leN s 4 2=20∧leN s 6 2=0∧leN s 28 2=0
 ·rw [decide_eq_true hd.1,decide_eq_true hd.2.1,decide_eq_true hd.2.2.1,decide_eq_true hd.2.2.2]
  simp only [cond_true,Zaa,Bool.not_true,cond_false]
  rw [decide_eq_false (show ¬((leN s 26 2:Nat):Int)<0 by omega),decide_eq_false (show ¬((leN s 18 4:Nat):Int)<0 by omega)]
  simp only [cond_false,Zaa]
  rw [Zaf (n:=30+((leN s 26 2:Nat):Int)) (by omega) (by omega),Zaf (n:=30+((leN s 26 2:Nat):Int)+((leN s 18 4:Nat):Int)) (by omega) (by omega),show 30+((leN s 26 2:Nat):Int)+((leN s 18 4:Nat):Int)=((30+leN s 26 2+leN s 18 4:Nat):Int) by omega,show 30+((leN s 26 2:Nat):Int)=((30+leN s 26 2:Nat):Int) by omega]
  by_cases hbig:s.length<30+leN s 26 2+leN s 18 4
  ·have hno:ZhW s=none:=by unfold ZhW;rw [if_neg h30,if_pos hbig]
   rw [decide_eq_true (by omega),cond_true]
   refine .pure ?_
   unfold Zqw
   rw [hno]
  rw [decide_eq_false (by omega),cond_false,Zab _ (by simp;omega),Zab _ (by simp;omega),Zzk _ (by omega)]
  simp only [Zaa]
  rw [Zab _ (by simp;omega),Zab _ (by simp;omega),Int.toNat_natCast,Int.toNat_natCast]
  have hbody:(s.take (30+leN s 26 2+leN s 18 4)).drop (30+leN s 26 2)=(s.drop (30+leN s 26 2)).take (leN s 18 4):=by
   rw [List.drop_take];congr 1;omega
  have hname:(s.take (30+leN s 26 2)).drop 30=(s.drop 30).take (leN s 26 2):=by
   rw [List.drop_take];congr 1;omega
  have hnl:((s.drop 30).take (leN s 26 2)).length=leN s 26 2:=by rw [List.length_take,List.length_drop];omega
  have hbl:((s.drop (30+leN s 26 2)).take (leN s 18 4)).length=leN s 18 4:=by rw [List.length_take,List.length_drop];omega
  rw [hbody,hname]
  have htx:∃(t:Str) (b:Bool),Zgp ((leN s 8 2:Nat):Int) ((s.drop (30+leN s 26 2)).take (leN s 18 4))=some (t,b)∧t.length≤1048576∧ZyB (leN s 8 2) ((s.drop (30+leN s 26 2)).take (leN s 18 4))=if b then some t else none:=by
   unfold Zgp ZyB
   by_cases c0:leN s 8 2=0
   ·rw [c0,if_pos rfl]
    exact ⟨_,true,rfl,by rw [hbl];omega,rfl⟩
   rw [show (((leN s 8 2:Nat):Int)==0)=false by simp only [beq_eq_false_iff_ne,ne_eq];omega,cond_false,if_neg c0,ZnY]
   have hle:=Zsg ((s.drop (30+leN s 26 2)).take (leN s 18 4))
   generalize ZhB ((s.drop (30+leN s 26 2)).take (leN s 18 4))=R at hle
   obtain ⟨t,n,ok⟩:=R
   dsimp only at hle
   simp only [Zaa]
   rw [show (((leN s 8 2:Nat):Int)==8)=decide (leN s 8 2=8) from eqI _ 8]
   by_cases c8:leN s 8 2=8
   ·rw [if_pos c8,decide_eq_true c8]
    cases ok with
    | false=>exact ⟨t,false,rfl,by omega,by rw [if_neg (by simp)];rfl⟩
    | true=>
     by_cases hn:n=((((s.drop (30+leN s 26 2)).take (leN s 18 4)).length:Nat):Int)
     ·exact ⟨t,true,by simp [hn],by omega,by rw [if_pos ⟨rfl,hn⟩];rfl⟩
     ·refine ⟨t,false,?_,by omega,by rw [if_neg (fun e=>hn e.2)];rfl⟩
      rw [beq_false_of_ne hn];rfl
   ·rw [if_neg c8,decide_eq_false c8]
    cases ok<;>exact ⟨t,false,rfl,by omega,rfl⟩
  obtain ⟨t,b,e,htl,hun⟩:=htx
  rw [e]
  simp only [Zaa]
  rw [Zks t (by omega)]
  simp only [Zaa]
  rw [eqI,eqI]
  have hloc:ZhW s=match (if b then some t else none) with
    | none=>none
    | some t=>if Zts s t then
     some (((s.drop 30).take (leN s 26 2),((stG (leN s 10 4)).y:Int),((stG (leN s 10 4)).mo:Int),((stG (leN s 10 4)).d:Int),((stG (leN s 10 4)).h:Int),((stG (leN s 10 4)).mi:Int),((stG (leN s 10 4)).sec:Int),t),30+leN s 26 2+leN s 18 4)
     else none:=by
   unfold ZhW;rw [if_neg h30,if_neg hbig,hun]<;>cases b<;>rfl
  cases b with
  | false=>
   simp only [cond_false,Zaa]
   refine .pure ?_
   unfold Zqw
   rw [hloc]
   rfl
  | true=>
   simp only [if_true] at hloc
   simp only [cond_true]
   by_cases hc:leN s 14 4=Zqn t∧leN s 22 4=t.length
   ·rw [decide_eq_true hc.1,decide_eq_true hc.2]
    simp only [cond_true,Zaa]
    rw [ZgC _ (by omega)]
    simp only [Zaa]
    refine .pure ?_
    unfold Zqw
    rw [hloc]
    by_cases hC:Zts s t
    ·rw [if_pos hC]
     show _=_
     have h1:=hC.1
     have h2:=hC.2.1
     have h3:=hC.2.2.1
     rw [h1,h2,decide_eq_true h3]
     rfl
    ·rw [if_neg hC]
     show (Zdd ((s.drop 30).take (leN s 26 2))&&(stM (stG (leN s 10 4)).y (stG (leN s 10 4)).mo (stG (leN s 10 4)).d (stG (leN s 10 4)).h (stG (leN s 10 4)).mi (stG (leN s 10 4)).sec&&decide (t.length≤300)))=false
     cases hn:Zdd ((s.drop 30).take (leN s 26 2)) with
     | false=>rfl
     | true=>
      cases hst:stM (stG (leN s 10 4)).y (stG (leN s 10 4)).mo (stG (leN s 10 4)).d (stG (leN s 10 4)).h (stG (leN s 10 4)).mi (stG (leN s 10 4)).sec with
      | false=>rfl
      | true=>
       by_cases h3:t.length≤300
       ·exact absurd ⟨hn,hst,h3,hd.1,hd.2.1,hd.2.2.1,hd.2.2.2,hc.1,hc.2⟩ hC
       ·rw [decide_eq_false h3];rfl
   ·have hC:¬Zts s t:=fun q=>hc ⟨q.2.2.2.2.2.2.2.1,q.2.2.2.2.2.2.2.2⟩
    rw [if_neg hC] at hloc
    have e2:(bif decide (leN s 14 4=Zqn t) then some (decide (leN s 22 4=t.length)) else some false)=some false:=by
     by_cases h1:leN s 14 4=Zqn t
     ·rw [decide_eq_true h1,decide_eq_false (fun q=>hc ⟨h1,q⟩)];rfl
     ·rw [decide_eq_false h1];rfl
    rw [e2]
    simp only [Zaa,cond_false]
    refine .pure ?_
    unfold Zqw
    rw [hloc]
 ·have hh:(bif decide (leN s 0 4=67324752) then bif decide (leN s 4 2=20) then bif decide (leN s 6 2=0) then some (decide (leN s 28 2=0)) else some false else some false else some false)=some false:=by
   by_cases a1:leN s 0 4=67324752
   ·by_cases a2:leN s 4 2=20
    ·by_cases a3:leN s 6 2=0
     ·rw [decide_eq_true a1,decide_eq_true a2,decide_eq_true a3,decide_eq_false (fun a4=>hd ⟨a1,a2,a3,a4⟩)];rfl
     ·rw [decide_eq_true a1,decide_eq_true a2,decide_eq_false a3];rfl
    ·rw [decide_eq_true a1,decide_eq_false a2];rfl
   ·rw [decide_eq_false a1];rfl
  rw [hh]
  simp only [Zaa,Bool.not_false,cond_true]
  refine .pure ?_
  unfold Zqw
  have hno:ZhW s=none:=by
   unfold ZhW
   rw [if_neg h30]
   split
   ·rfl
   ·split
    ·rfl
    ·rw [if_neg (fun q=>hd ⟨q.2.2.2.1,q.2.2.2.2.1,q.2.2.2.2.2.1,q.2.2.2.2.2.2.1⟩)]
  rw [hno]
end Ev
end
section
namespace Ev
open Go
def Zgb (a b:Str):Bool:=decide (a.length<b.length)&&((b.take a.length==a)&&(b.getD a.length 0==47))
def pre (s p:Str):Bool:=decide (p.length≤s.length)&&(s.take p.length==p)
theorem ZkO (a b:Str):Zdr a b=some (Zgb a b):=by
 unfold Zdr Zgb
 simp only [Zia,gt_iff_lt,Int.toNat_natCast]
 by_cases h:a.length<b.length
 ·rw [if_pos (by omega),Zab _ (ZiQ (by omega)),Zab _ (Zaw h),decide_eq_true h]
  have hb:=Zyp (b.getD a.length 0) 47 (by decide)
  rw [show ((47:Nat):Int)=47 from rfl] at hb
  rw [hb,show UInt8.ofNat 47=47 from rfl]
  cases (b.take a.length==a)<;>rfl
 ·rw [if_neg (by omega),decide_eq_false h];rfl
theorem Zr7 (s p:Str):ZcL s p=some (pre s p):=by
 unfold ZcL ZcF pre
 simp only [Zia,ge_iff_le,Int.toNat_natCast]
 by_cases h:p.length≤s.length
 ·rw [if_pos (by omega),Zab _ (ZiQ h),decide_eq_true h];rfl
 ·rw [if_neg (by omega),decide_eq_false h];rfl
theorem Zju (a b:Str):pre b (a++[47])=Zgb a b:=by
 unfold pre Zgb
 rw [Bool.eq_iff_iff]
 simp only [Bool.and_eq_true,decide_eq_true_eq,beq_iff_eq,List.length_append,List.length_singleton]
 constructor
 ·rintro ⟨h1,h2⟩
  have h3:a.length<b.length:=by omega
  rw [List.take_succ_eq_append_getElem h3] at h2
  obtain ⟨e1,e2⟩:=List.append_inj h2 (by simp;omega)
  refine ⟨h3,e1,?_⟩
  simp at e2
  simp [List.getD,h3,e2]
 ·rintro ⟨h1,h2,h3⟩
  refine ⟨by omega,?_⟩
  rw [List.take_succ_eq_append_getElem h1,h2]
  have:b[a.length]=47:=by simpa [List.getD,h1] using h3
  rw [this]
theorem Zvo (a:Str):Zgb a a=false:=by unfold Zgb;simp
end Ev
end
section
namespace Ev
open Go
def hit (a b:Str):Bool:=a==b||(pre a (b++[47])||pre b (a++[47]))
theorem ZzP (names u:List Str) (a:Str) (t3:List Str) (t4 t5:Int) (ha:a.length≤1048576) (hu:∀b,b∈u→b.length≤1048576) (hul:u.length≤1048576):∀k j,j+k=u.length→
  ZcG.l0 (k+1) (names,a,t3,t4,t5,u,(u.length:Int),(j:Int))=some (if (u.drop j).all (fun b=>!hit a b) then .inl (names,t3,t4,t5) else .inr (.inr false)):=by
 intro k
 induction k with
 | zero=>
  intro j hj
  rw [ZcG.l0.succ]
  simp only [ZcG.l0.step]
  rw [ZaQ (by omega),List.drop_eq_nil_of_le (by omega)]
  rfl
 | succ k ih=>
  intro j hj
  have hjl:j<u.length:=by omega
  have hd:u.drop j=u[j]::u.drop (j+1):=List.drop_eq_getElem_cons hjl
  have hg:u.getD j []=u[j]:=by simp [List.getD,hjl]
  have hm:=hu u[j] (List.getElem_mem hjl)
  rw [ZcG.l0.succ]
  simp only [ZcG.l0.step,Int.toNat_natCast,Zr7,Option.bind_some,hg]
  rw [Zab _ (Zaw hjl),ZaP hjl,cond_true,Zab _ (Ze5 (by simp;omega)),Zab _ (Ze5 (by simp;omega)),Zda (by omega),ih (j+1) (by omega),hd,List.all_cons,hit]
  cases (a==u[j])<;>cases pre a (u[j]++[47])<;>cases pre u[j] (a++[47])<;>rfl
theorem ZzO (names:List Str) (hn:names.length≤1048576) (hx:∀b,b∈names→b.length≤1048576):∀k i,i+k=names.length→
  ZcG.l1 (k+1) (names,names,(names.length:Int),(i:Int))=some (if (List.range' i k).all (fun i=>(names.take i).all (fun b=>!hit (names.getD i []) b)) then .inl () else .inr false):=by
 intro k
 induction k with
 | zero=>
  intro i hi
  rw [ZcG.l1.succ]
  simp only [ZcG.l1.step]
  rw [ZaQ (by omega)]
  rfl
 | succ k ih=>
  intro i hi
  have hil:i<names.length:=by omega
  have hg:names.getD i []=names[i]:=by simp [List.getD,hil]
  rw [ZcG.l1.succ]
  simp only [ZcG.l1.step,Int.toNat_natCast]
  rw [Zab _ (Zaw hil),Zab _ (ZiQ (by omega)),ZaP hil,cond_true,ZaA]
  have h0:=ZzP names (names.take i) (names.getD i []) names (names.length:Int) (i:Int) (by rw [hg];exact hx _ (List.getElem_mem hil)) (fun b hb=>hx b (List.mem_of_mem_take hb)) (by simp;omega) (names.take i).length 0 (by omega)
  rw [show ((0:Nat):Int)=0 from rfl,List.drop_zero] at h0
  rw [h0,List.range'_succ,List.all_cons]
  cases (names.take i).all (fun b=>!hit (names.getD i []) b) with
  | false=>rfl
  | true=>
   simp only [if_true,Option.bind_some,Bool.true_and]
   rw [Zda (by omega)]
   exact ih (i+1) (by omega)
theorem Zqu (names:List Str) (hn:names.length≤1048576) (hx:∀b,b∈names→b.length≤1048576):ZcG names=some ((List.range names.length).all (fun i=>(names.take i).all (fun b=>!hit (names.getD i []) b))):=by
 unfold ZcG
 have h:=ZzO names hn hx names.length 0 (by omega)
 rw [show ((0:Nat):Int)=0 from rfl] at h
 rw [ZaA,h,List.range_eq_range']
 cases (List.range' 0 names.length).all (fun i=>(names.take i).all (fun b=>!hit (names.getD i []) b))<;>rfl
end Ev
end
section
namespace Ev
open Go
def Fil.z:Fil:=([],0,0,0,0,0,0,[])
def Zcj (e:Fil):Bool:=Zdd e.1&&(stM e.2.1 e.2.2.1 e.2.2.2.1 e.2.2.2.2.1 e.2.2.2.2.2.1 e.2.2.2.2.2.2.1&&decide (e.2.2.2.2.2.2.2.length≤300))
theorem ZtY (es:List Fil) (hn:es.length≤1048576) (hx:∀e∈es,e.1.length≤1048576):∀(j i:Nat),i+j=es.length→
  Zee.l0 (j+1) (es,es,(es.length:Int),(i:Int))=some (if (es.drop i).all Zcj then .inl es else .inr false)
 | 0,i,h=>by
  rw [Zee.l0.succ];simp only [Zee.l0.step]
  rw [ZaQ (by omega),List.drop_eq_nil_of_le (by omega)];rfl
 | j+1,i,h=>by
  have hi:i<es.length:=by omega
  rw [Zee.l0.succ];simp only [Zee.l0.step]
  rw [ZaP hi,cond_true,Zab _ Zav,Int.toNat_natCast,show es.getD i ([],0,0,0,0,0,0,[])=es[i] from Zan hi,Zk0 _ (hx _ (List.getElem_mem hi)),Zaf (by omega) (by omega),show (i:Int)+1=((i+1:Nat):Int) by omega,
   ZtY es hn hx j (i+1) (by omega),List.drop_eq_getElem_cons hi,List.all_cons]
  simp only [Zaa]
  have e:(Zdd es[i].1&&(stM es[i].2.1 es[i].2.2.1 es[i].2.2.2.1 es[i].2.2.2.2.1 es[i].2.2.2.2.2.1 es[i].2.2.2.2.2.2.1&&decide (es[i].2.2.2.2.2.2.2.length≤300)))=Zcj es[i]:=rfl
  rw [e]
  cases Zcj es[i]<;>rfl
theorem ZoF (es:List Fil) (hn:es.length≤1048576):∀(j i:Nat) (out:List Str),i+j=es.length→out.length=i→
  Zbu.l0 (j+1) (es,(es.length:Int),(i:Int),out)=some (out++(es.drop i).map Prod.fst)
 | 0,i,out,h,ho=>by
  rw [Zbu.l0.succ];simp only [Zbu.l0.step]
  rw [ZaQ (by omega),List.drop_eq_nil_of_le (by omega)];simp
 | j+1,i,out,h,ho=>by
  have hi:i<es.length:=by omega
  rw [Zbu.l0.succ];simp only [Zbu.l0.step]
  rw [ZaP hi,cond_true,Zab _ Zav,Int.toNat_natCast,show es.getD i ([],0,0,0,0,0,0,[])=es[i] from Zan hi,Zad (by simp;omega),Zaf (by omega) (by omega),show (i:Int)+1=((i+1:Nat):Int) by omega,
   ZoF es hn j (i+1) _ (by omega) (by simp [ho]),List.drop_eq_getElem_cons hi,List.map_cons,List.append_assoc]
  rfl
theorem ZkG (es:List Fil) (hn:es.length≤1048576):Zbu es=some (es.map Prod.fst):=by
 have h:=ZoF es hn es.length 0 [] (by omega) rfl
 rw [show ((0:Nat):Int)=0 from rfl,List.drop_zero,List.nil_append] at h
 unfold Zbu
 rw [ZaA,h];rfl
def ZfC (names:List Str):Bool:=(List.range names.length).all fun i=>(names.take i).all fun b=>!hit (names.getD i []) b
def ZdR (es:List Fil):Bool:=es.all Zcj&&(decide (es.length≤6)&&ZfC (es.map Prod.fst))
theorem ZtZ (es:List Fil) (hn:es.length≤1048576) (hx:∀e∈es,e.1.length≤1048576):Zee es=some (ZdR es):=by
 have h:=ZtY es hn hx es.length 0 (by omega)
 rw [show ((0:Nat):Int)=0 from rfl,List.drop_zero] at h
 unfold Zee ZdR
 rw [ZaA,h]
 simp only [Zaa]
 cases es.all Zcj with
 | false=>rfl
 | true=>
  simp only [if_true,Bool.true_and]
  by_cases h6:es.length≤6
  ·rw [decide_eq_true (by omega),decide_eq_true h6,cond_true,ZkG es hn]
   simp only [Zaa]
   rw [Zqu _ (by simpa using hn) (fun b hb=>by obtain ⟨e,he,rfl⟩:=List.mem_map.1 hb;exact hx e he)]
   rfl
  ·rw [decide_eq_false (by omega),decide_eq_false h6];rfl
end Ev
end
section
namespace Ev
open Go
def Zh7 (es:List Fil) (i:Nat) (n:Str):Bool:=(es.take i).all fun e=>!(e.1==n)
theorem ZxH (es:List Fil) (hn:es.length≤1048576) (i:Nat) (hi:i<es.length):∀(k j:Nat),j+k=i→(∀e∈es.take j,(e.1==(es.getD i Fil.z).1)=false)→∀F,k<F→
  ∃m:Nat,Zfz.l0 F (es,(es.getD i Fil.z).1,(j:Int))=some (.inr (m:Int))∧m≤i∧(m=i↔Zh7 es i (es.getD i Fil.z).1=true)
 | 0,j,h,hj,0,hF=>absurd hF (by omega)
 | 0,j,h,hj,F+1,hF=>by
  have hji:j=i:=by omega
  subst hji
  refine ⟨j,?_,Nat.le_refl _,fun _=>?_,fun _=>rfl⟩
  ·rw [Zfz.l0.succ];simp only [Zfz.l0.step]
   rw [ZaP hi,cond_true,Zab _ Zav,Int.toNat_natCast,show es.getD j ([],0,0,0,0,0,0,[])=es.getD j Fil.z from rfl,beq_self_eq_true,cond_true]
   rfl
  ·unfold Zh7
   rw [List.all_eq_true]
   intro e he
   rw [hj e he];rfl
 | k+1,j,h,hj,0,hF=>absurd hF (by omega)
 | k+1,j,h,hj,F+1,hF=>by
  have hlt:j<es.length:=by omega
  rw [Zfz.l0.succ];simp only [Zfz.l0.step]
  rw [ZaP hlt,cond_true,Zab _ Zav,Int.toNat_natCast,show es.getD j ([],0,0,0,0,0,0,[])=es[j] from Zan hlt]
  cases hc:(es[j].1==(es.getD i Fil.z).1) with
  | true=>
   rw [cond_true]
   refine ⟨j,rfl,by omega,fun e=>by omega,fun e=>?_⟩
   exfalso
   unfold Zh7 at e
   rw [List.all_eq_true] at e
   have hm:es[j]∈es.take i:=List.mem_take_iff_getElem.2 ⟨j,by omega,rfl⟩
   have:=e _ hm
   rw [hc] at this;cases this
  | false=>
   rw [cond_false,Zaf (by omega) (by omega),show (j:Int)+1=((j+1:Nat):Int) by omega]
   refine ZxH es hn i hi k (j+1) (by omega) (fun e he=>?_) F (by omega)
   rw [List.take_succ_eq_append_getElem hlt] at he
   rcases List.mem_append.1 he with he | he
   ·exact hj e he
   ·have:e=es[j]:=by simpa using he
    subst this;exact hc
theorem ZxG (es:List Fil) (hn:es.length≤1048576) (i:Nat) (hi:i<es.length):(Zfz es (es.getD i Fil.z).1).bind (fun m=>some (m != (i:Int)))=some (!Zh7 es i (es.getD i Fil.z).1):=by
 obtain ⟨m,e,hm,hf⟩:=ZxH es hn i hi i 0 (by omega) (fun e he=>by simp at he) (es.length+1) (by omega)
 rw [show ((0:Nat):Int)=0 from rfl] at e
 unfold Zfz
 rw [ZaA,e]
 simp only [Zaa]
 cases hfm:Zh7 es i (es.getD i Fil.z).1 with
 | true=>rw [hf.2 hfm];simp
 | false=>
  have:m≠i:=fun e=>by rw [hf.1 e] at hfm;cases hfm
  simp;omega
theorem Zli (es:List Fil) (hn:es.length≤1048576) (i:Nat) (hi:i<es.length):∀(k j:Nat),j+k=es.length→
  ZaC.l0 (k+1) (es,(i:Int),(j:Int))=some (if (es.drop j).all (fun q=>!Zgb (es.getD i Fil.z).1 q.1) then .inl (es,(i:Int)) else .inr (.inr false))
 | 0,j,h=>by
  rw [ZaC.l0.succ];simp only [ZaC.l0.step]
  rw [ZaQ (by omega),List.drop_eq_nil_of_le (by omega)];rfl
 | k+1,j,h=>by
  have hj:j<es.length:=by omega
  rw [ZaC.l0.succ];simp only [ZaC.l0.step]
  rw [ZaP hj,cond_true,Zab _ (Zaw hi),Zab _ Zav,Int.toNat_natCast,Int.toNat_natCast,show es.getD j ([],0,0,0,0,0,0,[])=es[j] from Zan hj,show es.getD i ([],0,0,0,0,0,0,[])=es.getD i Fil.z from rfl,ZkO,
   Zaf (by omega) (by omega),show (j:Int)+1=((j+1:Nat):Int) by omega,Zli es hn i hi k (j+1) (by omega),List.drop_eq_getElem_cons hj,List.all_cons]
  simp only [Zaa]
  cases Zgb (es.getD i Fil.z).1 es[j].1<;>rfl
def Zr9 (es:List Fil) (i:Nat):Bool:=Zcj (es.getD i Fil.z)&&(Zh7 es i (es.getD i Fil.z).1&&es.all fun q=>!Zgb (es.getD i Fil.z).1 q.1)
theorem Zlh (es:List Fil) (hn:es.length≤1048576) (hx:∀e∈es,e.1.length≤1048576):∀(k i:Nat),i+k=es.length→
  ZaC.l1 (k+1) (es,(i:Int))=some (if (List.range' i k).all (Zr9 es) then .inl es else .inr false)
 | 0,i,h=>by
  rw [ZaC.l1.succ];simp only [ZaC.l1.step]
  rw [ZaQ (by omega)];rfl
 | k+1,i,h=>by
  have hi:i<es.length:=by omega
  have hself:=ZxG es hn i hi
  have h0:=Zli es hn i hi es.length 0 (by omega)
  rw [show ((0:Nat):Int)=0 from rfl,List.drop_zero] at h0
  rw [ZaC.l1.succ];simp only [ZaC.l1.step]
  rw [ZaP hi,cond_true,Zab _ Zav,Int.toNat_natCast,show es.getD i ([],0,0,0,0,0,0,[])=es.getD i Fil.z from rfl,ZgC _ (by rw [Zan hi];exact hx _ (List.getElem_mem hi)),Zab _ Zav,hself,ZaA,h0,List.range'_succ,List.all_cons]
  simp only [Zaa]
  have e:(Zdd (es.getD i Fil.z).1&&(stM (es.getD i Fil.z).2.1 (es.getD i Fil.z).2.2.1 (es.getD i Fil.z).2.2.2.1 (es.getD i Fil.z).2.2.2.2.1 (es.getD i Fil.z).2.2.2.2.2.1 (es.getD i Fil.z).2.2.2.2.2.2.1&&decide ((es.getD i Fil.z).2.2.2.2.2.2.2.length≤300)))=Zcj (es.getD i Fil.z):=rfl
  have g:Zr9 es i=(Zcj (es.getD i Fil.z)&&(Zh7 es i (es.getD i Fil.z).1&&es.all fun q=>!Zgb (es.getD i Fil.z).1 q.1)):=rfl
  rw [e,g]
  cases Zcj (es.getD i Fil.z) with
  | false=>rfl
  | true=>
   cases Zh7 es i (es.getD i Fil.z).1 with
   | false=>rfl
   | true=>
    cases es.all (fun q=>!Zgb (es.getD i Fil.z).1 q.1) with
    | false=>rfl
    | true=>
     simp only [Bool.not_true,cond_false,Zaa,if_true,Bool.true_and]
     rw [Zaf (by omega) (by omega),show (i:Int)+1=((i+1:Nat):Int) by omega]
     exact Zlh es hn hx k (i+1) (by omega)
theorem ZqU (es:List Fil) (hn:es.length≤1048576) (hx:∀e∈es,e.1.length≤1048576):ZaC es=some ((List.range es.length).all (Zr9 es)&&decide (es.length≤6)):=by
 have h:=Zlh es hn hx es.length 0 (by omega)
 rw [show ((0:Nat):Int)=0 from rfl,←List.range_eq_range'] at h
 unfold ZaC
 rw [ZaA,h]
 simp only [Zaa]
 cases (List.range es.length).all (Zr9 es) with
 | false=>rfl
 | true=>
  simp only [if_true,Bool.true_and]
  congr 1
  by_cases h6:es.length≤6
  ·rw [decide_eq_true h6,decide_eq_true (by omega)]
  ·rw [decide_eq_false h6,decide_eq_false (by omega)]
end Ev
end
section
namespace Ev
open Go
theorem ZxV (a b:Str):hit a b=false↔a≠b∧Zgb b a=false∧Zgb a b=false:=by
 unfold hit
 rw [Zju,Zju,Bool.or_eq_false_iff,Bool.or_eq_false_iff,beq_eq_false_iff_ne]
theorem Zrp {es:List Fil} {i:Nat} {e:Fil} (h:e∈es.take i):∃j,j<i∧j<es.length∧es.getD j Fil.z=e:=by
 obtain ⟨j,hj,rfl⟩:=List.getElem_of_mem h
 rw [List.length_take] at hj
 exact ⟨j,by omega,by omega,by rw [Zan (by omega),List.getElem_take]⟩
theorem ZqQ {es:List Fil} {i j:Nat} (h1:j<i) (h2:j<es.length):es.getD j Fil.z∈es.take i:=by
 rw [Zan h2];exact List.mem_take_iff_getElem.2 ⟨j,by omega,rfl⟩
theorem ZuT (es:List Fil) (i:Nat):(es.map Prod.fst).getD i []=(es.getD i Fil.z).1:=by
 simp only [List.getD_eq_getElem?_getD,List.getElem?_map]
 cases es[i]?<;>rfl
theorem ZAc (es:List Fil):ZdR es=true↔(∀i,i<es.length→Zcj (es.getD i Fil.z)=true)∧es.length≤6∧∀i j,i<es.length→j<i→(es.getD i Fil.z).1≠(es.getD j Fil.z).1∧Zgb (es.getD j Fil.z).1 (es.getD i Fil.z).1=false∧Zgb (es.getD i Fil.z).1 (es.getD j Fil.z).1=false:=by
 unfold ZdR ZfC
 rw [Bool.and_eq_true,Bool.and_eq_true,List.all_eq_true,List.all_eq_true,decide_eq_true_eq]
 constructor
 ·rintro ⟨h1,h2,h3⟩
  refine ⟨fun i hi=>h1 _ (by rw [Zan hi];exact List.getElem_mem hi),h2,fun i j hi hj=>?_⟩
  have h:=h3 i (List.mem_range.2 (by simpa using hi))
  rw [List.all_eq_true] at h
  have:=h (es.getD j Fil.z).1 (by rw [←List.map_take];exact List.mem_map.2 ⟨_,ZqQ hj (by omega),rfl⟩)
  rw [ZuT,Bool.not_eq_true',ZxV] at this
  exact this
 ·rintro ⟨h1,h2,h3⟩
  refine ⟨fun e he=>?_,h2,fun i hi=>?_⟩
  ·obtain ⟨i,hi,rfl⟩:=List.getElem_of_mem he
   have:=h1 i hi
   rwa [Zan hi] at this
  ·have hi:i<es.length:=by simpa using List.mem_range.1 hi
   rw [List.all_eq_true]
   intro b hb
   rw [←List.map_take] at hb
   obtain ⟨e,he,rfl⟩:=List.mem_map.1 hb
   obtain ⟨j,hj,_,rfl⟩:=Zrp he
   rw [ZuT,Bool.not_eq_true',ZxV]
   exact h3 i j hi hj
theorem Zzv (es:List Fil):((List.range es.length).all (Zr9 es)&&decide (es.length≤6))=true↔(∀i,i<es.length→Zcj (es.getD i Fil.z)=true)∧es.length≤6∧∀i j,i<es.length→j<i→(es.getD i Fil.z).1≠(es.getD j Fil.z).1∧Zgb (es.getD j Fil.z).1 (es.getD i Fil.z).1=false∧Zgb (es.getD i Fil.z).1 (es.getD j Fil.z).1=false:=by
 rw [Bool.and_eq_true,List.all_eq_true,decide_eq_true_eq]
 have un:∀i,Zr9 es i=true→Zcj (es.getD i Fil.z)=true∧Zh7 es i (es.getD i Fil.z).1=true∧∀q∈es,Zgb (es.getD i Fil.z).1 q.1=false:=fun i h=>by
  unfold Zr9 at h
  rw [Bool.and_eq_true,Bool.and_eq_true,List.all_eq_true] at h
  exact ⟨h.1,h.2.1,fun q hq=>by have:=h.2.2 q hq;rwa [Bool.not_eq_true'] at this⟩
 constructor
 ·rintro ⟨h1,h2⟩
  refine ⟨fun i hi=>(un i (h1 i (List.mem_range.2 hi))).1,h2,fun i j hi hj=>⟨fun e=>?_,?_,?_⟩⟩
  ·have h:=(un i (h1 i (List.mem_range.2 hi))).2.1
   unfold Zh7 at h
   rw [List.all_eq_true] at h
   have:=h _ (ZqQ hj (by omega))
   rw [←e,beq_self_eq_true] at this
   cases this
  ·exact (un j (h1 j (List.mem_range.2 (by omega)))).2.2 _ (by rw [Zan hi];exact List.getElem_mem hi)
  ·exact (un i (h1 i (List.mem_range.2 hi))).2.2 _ (by rw [Zan (by omega:j<es.length)];exact List.getElem_mem _)
 ·rintro ⟨h1,h2,h3⟩
  refine ⟨fun i hi=>?_,h2⟩
  have hi:=List.mem_range.1 hi
  unfold Zr9
  rw [Bool.and_eq_true,Bool.and_eq_true,List.all_eq_true]
  refine ⟨h1 i hi,?_,fun q hq=>?_⟩
  ·unfold Zh7
   rw [List.all_eq_true]
   intro e he
   obtain ⟨j,hj,_,rfl⟩:=Zrp he
   rw [Bool.not_eq_true',beq_eq_false_iff_ne]
   exact fun e=>(h3 i j hi hj).1 e.symm
  ·obtain ⟨j,hj,rfl⟩:=List.getElem_of_mem hq
   rw [Bool.not_eq_true',←Zan (d:=Fil.z) hj]
   rcases Nat.lt_trichotomy i j with h | h | h
   ·exact (h3 j i hj h).2.1
   ·subst h;exact Zvo _
   ·exact (h3 i j hi h).2.2
theorem Zvi (es:List Fil) (hn:es.length≤1048576) (hx:∀e∈es,e.1.length≤1048576):ZaC es=some (ZdR es):=by
 rw [ZqU es hn hx]
 congr 1
 rw [Bool.eq_iff_iff,Zzv,ZAc]
end Ev
end
section
namespace Ev
open Go
def Zjg (l:Str) (a:Nat):Str:=leB 33639248 4++leB 20 2++(l.take 30).drop 4++leB 0 10++leB a 4++(l.take (30+leN l 26 2)).drop 30
def ZcA:List Str→Nat→Str
 | [],_=>[]
 | l::r,a=>Zjg l a++ZcA r (a+l.length)
def Zwy (many long a:Nat):Str:=leB 101010256 4++leB 0 4++leB many 2++leB many 2++leB long 4++leB a 4++leB 0 2
def Zgc (ls:List Str):Nat:=(ls.map List.length).sum
def ZeT (ls:List Str):Str:=ZcA ls 0++Zwy ls.length (ZcA ls 0).length (Zgc ls)
def Zqz (l:Str):Prop:=30+leN l 26 2≤l.length∧l.length≤1048576
theorem Zib (l:Str) (a:Nat) (h:Zqz l):(Zjg l a).length=46+leN l 26 2:=by
 have:=h.1
 unfold Zjg
 simp only [List.length_append,ZaM,List.length_drop,List.length_take]
 omega
theorem Zp7 (ls:List Str) (h:∀l∈ls,Zqz l):∀a,(ZcA ls a).length≤1100000*ls.length:=by
 induction ls with
 | nil=>intro a;simp [ZcA]
 | cons l r ih=>
  intro a
  have h1:=Zib l a (h l (by simp))
  have h2:=ih (fun x hx=>h x (by simp [hx])) (a+l.length)
  have:=(h l (by simp)).1
  have:=(h l (by simp)).2
  simp only [ZcA,List.length_append,List.length_cons]
  omega
set_option maxRecDepth 100000 in
theorem Zpj (ls:List Str) (hn:ls.length≤1000) (hL:∀l∈ls,Zqz l):∀(j i:Nat) (heads:Str) (a:Nat),i+j=ls.length→heads.length≤2000000*i→a≤1048576*i→
  ZbL.l0 (j+1) (ls,heads,(a:Int),ls,(ls.length:Int),(i:Int))=some (ls,heads++ZcA (ls.drop i) a,((a+Zgc (ls.drop i):Nat):Int))
 | 0,i,heads,a,h,hh,ha=>by
  rw [ZbL.l0.succ];simp only [ZbL.l0.step]
  rw [ZaQ (by omega),cond_false,List.drop_eq_nil_of_le (show ls.length≤i by omega)];simp [ZcA,Zgc]
 | j+1,i,heads,a,h,hh,ha=>by
  have hi:i<ls.length:=by omega
  have hl:=hL ls[i] (List.getElem_mem hi)
  obtain ⟨hl1,hl2⟩:=hl
  have hc:=Zib ls[i] a ⟨hl1,hl2⟩
  have n26:=ZfZ ls[i] 26 2 (by omega) (by omega) (by omega) (by omega)
  have m20:=Zcy 20 2 (by omega) (by omega)
  have m0:=Zcy 0 10 (by omega) (by omega)
  have ma:=Zcy a 4 (by omega) (by omega)
  rw [show ((26:Nat):Int)=26 from rfl,show ((2:Nat):Int)=2 from rfl] at n26
  rw [show ((20:Nat):Int)=20 from rfl,show ((2:Nat):Int)=2 from rfl] at m20
  rw [show ((0:Nat):Int)=0 from rfl,show ((10:Nat):Int)=10 from rfl] at m0
  rw [show ((4:Nat):Int)=4 from rfl] at ma
  have hm:([80,75,1,2]:Str)=leB 33639248 4:=by decide
  have ih:=Zpj ls hn hL j (i+1) (heads++Zjg ls[i] a) (a+ls[i].length) (by omega) (by rw [List.length_append];omega) (by omega)
  rw [ZbL.l0.succ];simp only [ZbL.l0.step]
  rw [ZaP hi,cond_true,Zab _ Zav,Int.toNat_natCast,show ls.getD i []=ls[i] from Zan hi,n26,m20,m0,ma,hm]
  simp only [Zaa]
  rw [Zaf (n:=30+((leN ls[i] 26 2:Nat):Int)) (by omega) (by omega),show 30+((leN ls[i] 26 2:Nat):Int)=((30+leN ls[i] 26 2:Nat):Int) by omega,Int.toNat_natCast,
   Zaf (n:=(a:Int)+((ls[i].length:Nat):Int)) (by omega) (by omega),show (a:Int)+((ls[i].length:Nat):Int)=((a+ls[i].length:Nat):Int) by omega,Zaf (n:=(i:Int)+1) (by omega) (by omega),show (i:Int)+1=((i+1:Nat):Int) by omega]
  have hcm:((((leB 33639248 4++leB 20 2)++((ls[i].take 30).drop 4))++leB 0 10)++leB a 4)++((ls[i].take (30+leN ls[i] 26 2)).drop 30)=Zjg ls[i] a:=rfl
  have L:∀n k,(leB n k).length=k:=ZaM
  have l1:((ls[i].take 30).drop 4).length=26:=by rw [List.length_drop,List.length_take];omega
  have l2:((ls[i].take (30+leN ls[i] 26 2)).drop 30).length=leN ls[i] 26 2:=by rw [List.length_drop,List.length_take];omega
  rw [Zad (by simp only [L];omega),Zab _ (by simp;omega),Zab _ (by decide),Zad (by simp only [List.length_append,L,l1];omega),Zad (by simp only [List.length_append,L,l1];omega),Zad (by simp only [List.length_append,L,l1];omega),
   Zab _ (by simp;omega),Zab _ (by simp;omega),Zad (by simp only [List.length_append,L,l1,l2];omega),Zad (by rw [hcm,hc];omega),hcm,ih,List.drop_eq_getElem_cons hi]
  simp only [ZcA,Zgc,List.map_cons,List.sum_cons,List.append_assoc,Nat.add_assoc]
theorem ZAh (ls:List Str) (h:∀l∈ls,Zqz l):Zgc ls≤1048576*ls.length:=by
 induction ls with
 | nil=>simp [Zgc]
 | cons l r ih=>
  have h1:=(h l (by simp)).2
  have h2:=ih (fun x hx=>h x (by simp [hx]))
  simp only [Zgc,List.map_cons,List.sum_cons,List.length_cons] at h2 ⊢
  omega
theorem Zpk (ls:List Str) (hn:ls.length≤1000) (hL:∀l∈ls,Zqz l):ZbL ls=some (ZeT ls):=by
 have h:=Zpj ls hn hL ls.length 0 [] 0 (by omega) (by simp) (by omega)
 rw [show ((0:Nat):Int)=0 from rfl,List.drop_zero,List.nil_append,Nat.zero_add] at h
 have hh:=Zp7 ls hL 0
 have hs:=ZAh ls hL
 have n1:=Zcy ls.length 2 (by omega) (by omega)
 have n2:=Zcy 0 4 (by omega) (by omega)
 have n3:=Zcy (ZcA ls 0).length 4 (by omega) (by omega)
 have n4:=Zcy (Zgc ls) 4 (by omega) (by omega)
 have n5:=Zcy 0 2 (by omega) (by omega)
 rw [show ((2:Nat):Int)=2 from rfl] at n1
 rw [show ((0:Nat):Int)=0 from rfl,show ((4:Nat):Int)=4 from rfl] at n2
 rw [show ((4:Nat):Int)=4 from rfl] at n3 n4
 rw [show ((0:Nat):Int)=0 from rfl,show ((2:Nat):Int)=2 from rfl] at n5
 have L:∀n k,(leB n k).length=k:=ZaM
 have hm:([80,75,5,6]:Str)=leB 101010256 4:=by decide
 unfold ZbL
 rw [ZaA,h]
 simp only [Zaa]
 rw [n1,n2,n3,n4,n5,hm]
 simp only [Zaa]
 rw [Zad (by simp only [L];omega),Zad (by simp only [List.length_append,L];omega),Zad (by simp only [List.length_append,L];omega),Zad (by simp only [List.length_append,L];omega),Zad (by simp only [List.length_append,L];omega),
  Zad (by simp only [List.length_append,L];omega),Zad (by simp only [List.length_append,L];omega)]
 unfold ZeT Zwy
 simp only [List.append_assoc]
end Ev
end
section
namespace Ev
open Go
theorem Zf4 {s:Str} {e:Fil} {n:Nat} (h:ZhW s=some (e,n)):n=30+leN s 26 2+leN s 18 4∧n≤s.length∧e.1=(s.drop 30).take (leN s 26 2):=by
 unfold ZhW at h
 split at h
 ·cases h
 ·split at h
  ·cases h
  ·split at h
   ·cases h
   ·split at h
    ·obtain ⟨rfl,rfl⟩:=Prod.mk.inj (Option.some.inj h)
     exact ⟨rfl,by omega,rfl⟩
    ·cases h
theorem ZpZ (s:Str) (n a k:Nat) (h:a+k≤n):leN (s.take n) a k=leN s a k:=by
 unfold leN
 rw [List.drop_take,List.take_take,Nat.min_eq_left (by omega)]
theorem Ztr {s:Str} {e:Fil} {n:Nat} (h:ZhW s=some (e,n)) (hs:s.length≤1048576):Zqz (s.take n)∧e.1.length≤1048576:=by
 obtain ⟨h1,h2,h3⟩:=Zf4 h
 refine ⟨⟨?_,by rw [List.length_take];omega⟩,by rw [h3,List.length_take,List.length_drop];omega⟩
 rw [ZpZ s n 26 2 (by omega),List.length_take];omega
def Zby:Nat→Str→List Fil×List Str×Str
 | 0,s=>([],[],s)
 | k+1,s=>match ZhW s with
  | none=>([],[],s)
  | some (e,n)=>(e::(Zby k (s.drop n)).1,s.take n::(Zby k (s.drop n)).2.1,(Zby k (s.drop n)).2.2)
def ZcH (s:Str):Option (List Fil):=if ZdR (Zby 6 s).1=true∧(Zby 6 s).2.2=ZeT (Zby 6 s).2.1 then some (Zby 6 s).1 else none
theorem Zmv:∀(k:Nat) (s:Str),s.length≤1048576→(Zby k s).1.length≤k∧(Zby k s).2.1.length≤k∧(∀e∈(Zby k s).1,e.1.length≤1048576)∧∀l∈(Zby k s).2.1,Zqz l
 | 0,s,hs=>by simp [Zby]
 | k+1,s,hs=>by
  rw [Zby]
  cases h:ZhW s with
  | none=>simp
  | some p=>
   obtain ⟨e,n⟩:=p
   have h1:=Ztr h hs
   obtain ⟨q1,q2,q3,q4⟩:=Zmv k (s.drop n) (by rw [List.length_drop];omega)
   refine ⟨by simp;omega,by simp;omega,fun x hx=>?_,fun x hx=>?_⟩
   ·rcases List.mem_cons.1 hx with rfl | hx
    ·exact h1.2
    ·exact q3 x hx
   ·rcases List.mem_cons.1 hx with rfl | hx
    ·exact h1.1
    ·exact q4 x hx
theorem ZqI:∀(k:Nat) (s:Str) (out:List Fil) (ls:List Str),s.length≤1048576→out.length+k=6→ls.length≤6→
  ls.length=out.length→Zbv.l0 (k+1) (s,out,ls)=some ((Zby k s).2.2,out++(Zby k s).1,ls++(Zby k s).2.1)
 | 0,s,out,ls,hs,h,hl,he=>by
  rw [Zbv.l0.succ];simp only [Zbv.l0.step]
  rw [decide_eq_false (by omega),cond_false];simp [Zby]
 | k+1,s,out,ls,hs,h,hl,he=>by
  rw [Zbv.l0.succ];simp only [Zbv.l0.step]
  rw [decide_eq_true (by omega),cond_true,Ztp s hs,Zby]
  simp only [Zaa]
  cases hm:ZhW s with
  | none=>simp [ZzY]
  | some p=>
   obtain ⟨e,n⟩:=p
   have h1:=Zf4 hm
   unfold ZzY
   dsimp only
   rw [Bool.not_true,cond_false,Zad (by simp;omega),Zab _ (by simp;omega),Zad (by simp;omega),Int.toNat_natCast,Zab _ (by simp;omega),
    ZqI k (s.drop n) _ _ (by rw [List.length_drop];omega) (by simp;omega) (by simp;omega) (by simp;omega)]
   simp
def ZqG:Option (List Fil)→Bool×List Fil
 | none=>(false,[])
 | some es=>(true,es)
theorem ZgL (s:Str) (hs:s.length≤1048576):Zbv s=some (ZqG (ZcH s)):=by
 have h:=ZqI 6 s [] [] hs rfl (by simp) rfl
 obtain ⟨q1,q2,q3,q4⟩:=Zmv 6 s hs
 unfold Zbv
 rw [List.length_nil,show ((6-((0:Nat):Int)).toNat+1)=6+1 from rfl,h]
 simp only [Zaa,List.nil_append]
 rw [ZtZ _ (by omega) q3]
 simp only [Zaa]
 unfold ZcH
 cases hz:ZdR (Zby 6 s).1 with
 | false=>
  rw [if_neg (by simp)];rfl
 | true=>
  simp only [Bool.not_true,cond_false]
  rw [Zpk _ (by omega) q4]
  simp only [Zaa]
  by_cases hc:(Zby 6 s).2.2=ZeT (Zby 6 s).2.1
  ·rw [if_pos ⟨trivial,hc⟩,hc,beq_self_eq_true];rfl
  ·rw [if_neg (fun q=>hc q.2),beq_false_of_ne hc];rfl
end Ev
end
section
namespace Ev
open Go
theorem Zux (many long a:Nat) (h1:many≤100000) (h2:long≤1000000000000) (h3:a≤1000000000000):ZhG (many:Int) (long:Int) (a:Int)=some (Zwy many long a):=by
 have n1:=Zbh many 2 (by omega) (by omega)
 have n2:=Zbh 0 2 (by omega) (by omega)
 have n3:=Zbh long 4 (by omega) (by omega)
 have n4:=Zbh a 4 (by omega) (by omega)
 have n5:=Zbh 101010256 4 (by omega) (by omega)
 rw [show ((2:Nat):Int)=2 from rfl] at n1
 rw [show ((0:Nat):Int)=0 from rfl,show ((2:Nat):Int)=2 from rfl] at n2
 rw [show ((4:Nat):Int)=4 from rfl] at n3 n4
 rw [show ((101010256:Nat):Int)=101010256 from rfl,show ((4:Nat):Int)=4 from rfl] at n5
 have L:∀n k,(leB n k).length=k:=ZaM
 have z:leB 0 4=leB 0 2++leB 0 2:=by decide
 unfold ZhG
 rw [n1,n2,n3,n4,n5]
 simp only [Zaa]
 rw [Zad (by simp only [L];omega),Zad (by simp only [List.length_append,L];omega),Zad (by simp only [List.length_append,L];omega),Zad (by simp only [List.length_append,L];omega),Zad (by simp only [List.length_append,L];omega),
  Zad (by simp only [List.length_append,L];omega),Zad (by simp only [List.length_append,L];omega)]
 unfold Zwy
 rw [z]
 simp only [List.append_assoc]
theorem Zjd (many long a:Nat):(Zwy many long a).length=22:=by
 unfold Zwy;simp only [List.length_append,ZaM]
theorem Zxq {s:Str} (h:leN s 0 4≠67324752):ZhW s=none:=by
 unfold ZhW
 split
 ·rfl
 ·split
  ·rfl
  ·split
   ·rfl
   ·rw [if_neg (fun q=>h q.2.2.2.1)]
theorem Ztw (n k:Nat) (r:Str) (hn:n<256^k):leN (leB n k++r) 0 k=n:=by
 unfold leN
 rw [List.drop_zero,List.take_append_of_le_length (by rw [ZaM];exact Nat.le_refl _),List.take_of_length_le (by rw [ZaM];exact Nat.le_refl _),Ztv,Nat.mod_eq_of_lt hn]
theorem ZnD (ls:List Str) (a m lo at_:Nat):ZhW (ZcA ls a++Zwy m lo at_)=none:=by
 apply Zxq
 cases ls with
 | nil=>
  unfold Zwy ZcA
  simp only [List.nil_append,List.append_assoc]
  rw [Ztw _ _ _ (by omega)];omega
 | cons l r=>
  unfold ZcA Zjg
  simp only [List.append_assoc]
  rw [Ztw _ _ _ (by omega)];omega
end Ev
end
section
namespace Ev
open Go
def sub (s:Str) (i j:Nat):Str:=(s.take j).drop i
def ZiW (s:Str) (h a:Nat):Prop:=h+46+leN s (h+28) 2≤s.length∧a+30+leN s (h+28) 2≤s.length∧
 sub s (h+6) (h+32)=sub s (a+4) (a+30)∧sub s (h+46) (h+(46+leN s (h+28) 2))=sub s (a+30) (a+30+leN s (h+28) 2)∧
 sub s h (h+6)=leB 33639248 4++leB 20 2∧sub s (h+32) (h+46)=leB 0 10++leB a 4
set_option maxRecDepth 100000 in
theorem ZxF (s:Str) (hs:s.length≤1048576) (h a:Nat) (hh:h≤2000000) (ha:a≤2000000) :
  Ret (Zgo s (h:Int) (a:Int)) fun r=>(r.2=true↔ZiW s h a)∧(ZiW s h a→r.1=((46+leN s (h+28) 2:Nat):Int)):=by
 unfold Zgo
 have two:=ZgV s (h+28) 2
 have q:=Zp1 s (h+28) 2 (by omega) (by omega) (by omega) (by omega)
 rw [show ((2:Nat):Int)=2 from rfl] at q
 rw [Zaf (n:=(h:Int)+28) (by omega) (by omega),show (h:Int)+28=((h+28:Nat):Int) by omega,q]
 simp only [Zaa]
 by_cases c30:h+28+2≤s.length
 ·rw [if_pos c30,decide_eq_false (show ¬((leN s (h+28) 2:Nat):Int)<0 by omega),cond_false,
   Zaf (n:=46+((leN s (h+28) 2:Nat):Int)) (by omega) (by omega),Zaf (n:=(h:Int)+(46+((leN s (h+28) 2:Nat):Int))) (by omega) (by omega),Zaf (n:=(a:Int)+30) (by omega) (by omega),Zaf (n:=(a:Int)+30+((leN s (h+28) 2:Nat):Int)) (by omega) (by omega)]
  by_cases c1:h+46+leN s (h+28) 2≤s.length
  ·by_cases c2:a+30+leN s (h+28) 2≤s.length
   ·rw [decide_eq_false (by omega),cond_false,decide_eq_false (by omega)]
    simp only [Zaa,cond_false]
    have n1:=Zbh 33639248 4 (by omega) (by omega)
    have n2:=Zbh 20 2 (by omega) (by omega)
    have n3:=Zbh 0 10 (by omega) (by omega)
    have n4:=Zbh a 4 (by omega) (by omega)
    rw [show ((33639248:Nat):Int)=33639248 from rfl,show ((4:Nat):Int)=4 from rfl] at n1
    rw [show ((20:Nat):Int)=20 from rfl,show ((2:Nat):Int)=2 from rfl] at n2
    rw [show ((0:Nat):Int)=0 from rfl,show ((10:Nat):Int)=10 from rfl] at n3
    rw [show ((4:Nat):Int)=4 from rfl] at n4
    rw [n1,n2,n3,n4]
    simp only [Zaa]
    rw [Zaf (n:=(h:Int)+32) (by omega) (by omega),Zaf (n:=(h:Int)+6) (by omega) (by omega),Zaf (n:=(a:Int)+4) (by omega) (by omega),Zaf (n:=(h:Int)+46) (by omega) (by omega)]
    rw [show (h:Int)+32=((h+32:Nat):Int) by omega,show (h:Int)+6=((h+6:Nat):Int) by omega,show (a:Int)+4=((a+4:Nat):Int) by omega,show (h:Int)+46=((h+46:Nat):Int) by omega,show (a:Int)+30+((leN s (h+28) 2:Nat):Int)=((a+30+leN s (h+28) 2:Nat):Int) by omega,
     show (a:Int)+30=((a+30:Nat):Int) by omega,show (h:Int)+(46+((leN s (h+28) 2:Nat):Int))=((h+(46+leN s (h+28) 2):Nat):Int) by omega]
    simp only [Int.toNat_natCast]
    have L:∀n k,(leB n k).length=k:=ZaM
    repeat rw [Zab _ (by simp;omega)]
    repeat rw [Zad (by simp only [L];omega)]
    repeat rw [Zab _ (by simp;omega)]
    repeat rw [Zad (by simp only [L];omega)]
    repeat rw [Zab _ (by simp;omega)]
    have hH:ZiW s h a↔(((sub s (h+6) (h+32)==sub s (a+4) (a+30))=true∧(sub s (h+46) (h+(46+leN s (h+28) 2))==sub s (a+30) (a+30+leN s (h+28) 2))=true)∧
      (sub s h (h+6)==leB 33639248 4++leB 20 2)=true∧(sub s (h+32) (h+46)==leB 0 10++leB a 4)=true):=by
     unfold ZiW
     simp only [beq_iff_eq]
     constructor
     ·rintro ⟨_,_,q1,q2,q3,q4⟩;exact ⟨⟨q1,q2⟩,q3,q4⟩
     ·rintro ⟨⟨q1,q2⟩,q3,q4⟩;exact ⟨c1,c2,q1,q2,q3,q4⟩
    rw [hH]
    unfold sub
    generalize (((s.take (h+32)).drop (h+6))==((s.take (a+30)).drop (a+4)))=b1
    generalize (((s.take (h+(46+leN s (h+28) 2))).drop (h+46))==((s.take (a+30+leN s (h+28) 2)).drop (a+30)))=b2
    generalize (((s.take (h+6)).drop h)==leB 33639248 4++leB 20 2)=b3
    generalize (((s.take (h+46)).drop (h+32))==leB 0 10++leB a 4)=b4
    cases b1<;>cases b2<;>cases b3<;>cases b4<;>refine ⟨(46+((leN s (h+28) 2:Nat):Int),_),rfl,by simp,fun _=>by first | omega | (dsimp only;omega)⟩
   ·rw [decide_eq_false (by omega),cond_false,decide_eq_true (by omega)]
    exact ⟨_,rfl,⟨fun q=>absurd q (by simp),fun q=>absurd q.2.1 c2⟩,fun q=>absurd q.2.1 c2⟩
  ·rw [decide_eq_true (by omega),cond_true]
   exact ⟨_,rfl,⟨fun q=>absurd q (by simp),fun q=>absurd q.1 c1⟩,fun q=>absurd q.1 c1⟩
 ·rw [if_neg c30]
  have hz:¬ZiW s h a:=fun q=>by have:=q.1;omega
  exact ⟨_,rfl,⟨fun q=>absurd q (by simp),fun q=>absurd q hz⟩,fun q=>absurd q hz⟩
end Ev
end
section
namespace Ev
open Go
def ZeZ:Nat→Str→Option (List Fil×List Str)
 | 0,_=>some ([],[])
 | k+1,s=>match ZhW s with
  | none=>none
  | some (e,n)=>(ZeZ k (s.drop n)).map fun p=>(e::p.1,s.take n::p.2)
theorem Zuw (s:Str) (hs:s.length≤1048576) (K:Nat) (hK:K≤1000):∀(k i a:Nat) (out:List Fil),i+k=K→a≤s.length→out.length=i→
  Ret (Zfi.l0 (k+1) (s,(K:Int),(a:Int),(i:Int),out)) fun r=>match ZeZ k (s.drop a) with
   | some (es,ls)=>r=.inl (((a+Zgc ls:Nat):Int),out++es)
   | none=>∃a' o',r=.inr (a',false,o')
 | 0,i,a,out,h,ha,ho=>by
  rw [Zfi.l0.succ];simp only [Zfi.l0.step]
  rw [ZaQ (by omega)]
  exact .pure (by simp [ZeZ,Zgc])
 | k+1,i,a,out,h,ha,ho=>by
  rw [Zfi.l0.succ];simp only [Zfi.l0.step]
  obtain ⟨r,er,hp⟩:=ZrM (s.drop a) (by rw [List.length_drop];omega)
  rw [ZaP (by omega),cond_true,Zab _ (by simp;omega),Int.toNat_natCast,er,ZeZ]
  simp only [Zaa]
  unfold Zqw at hp
  cases hm:ZhW (s.drop a) with
  | none=>
   rw [hm] at hp
   dsimp only at hp
   rw [hp]
   exact .pure ⟨_,_,rfl⟩
  | some p=>
   obtain ⟨e,n⟩:=p
   rw [hm] at hp
   have hsp:=Zf4 hm
   rw [List.length_drop] at hsp
   subst hp
   unfold ZzY
   dsimp only
   rw [Bool.not_true,cond_false,Zad (by simp;omega),Zaf (n:=(a:Int)+(n:Int)) (by omega) (by omega),show (a:Int)+(n:Int)=((a+n:Nat):Int) by omega,Zaf (by omega) (by omega),show (i:Int)+1=((i+1:Nat):Int) by omega]
   refine (Zuw s hs K hK k (i+1) (a+n) _ (by omega) (by omega) (by simp;omega)).mono ?_
   intro r hr
   rw [List.drop_drop]
   cases hk:ZeZ k (s.drop (a+n)) with
   | none=>rw [hk] at hr;exact hr
   | some q=>
    obtain ⟨es,ls⟩:=q
    rw [hk] at hr
    dsimp only [Option.map_some]
    have hln:((s.drop a).take n).length=n:=by rw [List.length_take,List.length_drop];omega
    rw [hr]
    simp [Zgc,hln,Nat.add_assoc]
end Ev
end
section
namespace Ev
open Go
theorem ZiH (s:Str) (i j:Nat):sub s i j=(s.drop i).take (j-i):=by unfold sub;rw [List.drop_take]
theorem ZgP (s:Str) {i j k:Nat} (h1:i≤j) (h2:j≤k):sub s i k=sub s i j++sub s j k:=by
 rw [ZiH,ZiH,ZiH,show k-i=(j-i)+(k-j) by omega,List.take_add,List.drop_drop,show i+(j-i)=j by omega]
theorem Zkp (s:Str) {i j p q:Nat} (h:i+p+q≤j):((sub s i j).drop p).take q=sub s (i+p) (i+p+q):=by
 rw [ZiH,ZiH,List.drop_take,List.take_take,List.drop_drop,Nat.min_eq_left (by omega),show i+p+q-(i+p)=q by omega]
theorem Zdy (s:Str) {i j:Nat} (h1:i≤j) (h2:j≤s.length):(sub s i j).length=j-i:=by
 rw [ZiH,List.length_take,List.length_drop];omega
theorem ZkN (s:Str) (a k:Nat):leN s a k=leV (sub s a (a+k)):=by
 unfold leN;rw [ZiH,show a+k-a=k by omega]
theorem Zl0 (s:Str) (a b k:Nat):leN (s.drop a) b k=leN s (a+b) k:=by
 unfold leN;rw [List.drop_drop]
theorem Zk5 (s:Str) (a n:Nat) (hn:30+leN s (a+26) 2≤n) :
  Zjg ((s.drop a).take n) a=(leB 33639248 4++leB 20 2)++(sub s (a+4) (a+30)++((leB 0 10++leB a 4)++sub s (a+30) (a+30+leN s (a+26) 2))):=by
 have e:leN ((s.drop a).take n) 26 2=leN s (a+26) 2:=by rw [ZpZ _ _ _ _ (by omega),Zl0]
 unfold Zjg
 rw [e]
 have p1:(((s.drop a).take n).take 30).drop 4=sub s (a+4) (a+30):=by
  rw [List.take_take,Nat.min_eq_left (by omega),List.drop_take,List.drop_drop,ZiH,show a+30-(a+4)=30-4 by omega]
 have p2:(((s.drop a).take n).take (30+leN s (a+26) 2)).drop 30=sub s (a+30) (a+30+leN s (a+26) 2):=by
  rw [List.take_take,Nat.min_eq_left (by omega),List.drop_take,List.drop_drop,ZiH];congr 1;omega
 rw [p1,p2]
 simp only [List.append_assoc]
theorem ZxX (s:Str) (a h n:Nat) (hn:30+leN s (a+26) 2≤n) (ha:a+n≤s.length) :
  ZiW s h a↔(s.drop h).take (46+leN s (a+26) 2)=Zjg ((s.drop a).take n) a:=by
 have L:∀n k,(leB n k).length=k:=ZaM
 rw [Zk5 s a n hn]
 have e0:(s.drop h).take (46+leN s (a+26) 2)=sub s h (h+(46+leN s (a+26) 2)):=by
  rw [ZiH];congr 1;omega
 constructor
 ·rintro ⟨h1,h2,q1,q2,q3,q4⟩
  have e:leN s (h+28) 2=leN s (a+26) 2:=by
   rw [ZkN,ZkN]
   have r1:=Zkp s (i:=h+6) (j:=h+32) (p:=22) (q:=2) (by omega)
   have r2:=Zkp s (i:=a+4) (j:=a+30) (p:=22) (q:=2) (by omega)
   rw [q1,r2] at r1
   rw [show h+6+22=h+28 by omega,show a+4+22=a+26 by omega] at r1
   rw [r1]
  rw [e] at h1 h2 q2
  rw [e0,ZgP s (i:=h) (j:=h+6) (by omega) (by omega),ZgP s (i:=h+6) (j:=h+32) (by omega) (by omega),ZgP s (i:=h+32) (j:=h+46) (by omega) (by omega),q1,q2,q3,q4]
 ·intro q
  have hl:((s.drop h).take (46+leN s (a+26) 2)).length=46+leN s (a+26) 2:=by
   rw [q]
   simp only [List.length_append,L]
   rw [Zdy s (by omega) (by omega),Zdy s (by omega) (by omega)]
   omega
  rw [List.length_take,List.length_drop] at hl
  have hb:h+46+leN s (a+26) 2≤s.length:=by omega
  rw [e0,ZgP s (i:=h) (j:=h+6) (by omega) (by omega),ZgP s (i:=h+6) (j:=h+32) (by omega) (by omega),ZgP s (i:=h+32) (j:=h+46) (by omega) (by omega)] at q
  obtain ⟨q3,q⟩:=List.append_inj q (by rw [Zdy s (by omega) (by omega)];simp only [List.length_append,L];omega)
  obtain ⟨q1,q⟩:=List.append_inj q (by rw [Zdy s (by omega) (by omega),Zdy s (by omega) (by omega)];omega)
  obtain ⟨q4,q2⟩:=List.append_inj q (by rw [Zdy s (by omega) (by omega)];simp only [List.length_append,L];omega)
  have e:leN s (h+28) 2=leN s (a+26) 2:=by
   rw [ZkN,ZkN]
   have r1:=Zkp s (i:=h+6) (j:=h+32) (p:=22) (q:=2) (by omega)
   have r2:=Zkp s (i:=a+4) (j:=a+30) (p:=22) (q:=2) (by omega)
   rw [q1,r2] at r1
   rw [show h+6+22=h+28 by omega,show a+4+22=a+26 by omega] at r1
   rw [r1]
  unfold ZiW
  rw [e]
  exact ⟨hb,by omega,q1,q2,q3,q4⟩
def Zig (s:Str):List Str→Nat→Nat→Prop
 | [],_,_=>True
 | l::r,h,a=>ZiW s h a∧Zig s r (h+(46+leN l 26 2)) (a+l.length)
theorem ZqR {α:Type} (x p q:List α):x.take (p.length+q.length)=p++q↔x.take p.length=p∧(x.drop p.length).take q.length=q:=by
 rw [List.take_add]
 constructor
 ·intro e
  by_cases h:p.length≤x.length
  ·exact List.append_inj e (by rw [List.length_take];omega)
  ·have h1:=congrArg List.length e
   simp only [List.length_append,List.length_take,List.length_drop] at h1
   omega
 ·rintro ⟨e1,e2⟩;rw [e1,e2]
theorem ZrC {s:Str} {a n:Nat} {e:Fil} (h:ZhW (s.drop a)=some (e,n)):30+leN s (a+26) 2≤n∧n≤s.length-a∧((s.drop a).take n).length=n∧leN ((s.drop a).take n) 26 2=leN s (a+26) 2:=by
 obtain ⟨h1,h2,h3⟩:=Zf4 h
 rw [List.length_drop] at h2
 rw [Zl0] at h1
 refine ⟨by omega,h2,by rw [List.length_take,List.length_drop];omega,by rw [ZpZ _ _ _ _ (by omega),Zl0]⟩
theorem Zq7:∀(k:Nat) (s:Str) {es:List Fil} {ls:List Str},ZeZ k s=some (es,ls)→ls.length=k∧es.length=k
 | 0,s,es,ls,h=>by
  obtain ⟨rfl,rfl⟩:=Prod.mk.inj (Option.some.inj h);exact ⟨rfl,rfl⟩
 | k+1,s,es,ls,h=>by
  rw [ZeZ] at h
  cases hm:ZhW s with
  | none=>rw [hm] at h;cases h
  | some p=>
   obtain ⟨e,n⟩:=p
   rw [hm] at h
   dsimp only at h
   cases hk:ZeZ k (s.drop n) with
   | none=>rw [hk] at h;cases h
   | some q=>
    rw [hk] at h
    obtain ⟨rfl,rfl⟩:=Prod.mk.inj (Option.some.inj h)
    have:=Zq7 k (s.drop n) (es:=q.1) (ls:=q.2) hk
    simp [this.1,this.2]
theorem Zr4 (s:Str):∀(k:Nat) (a h:Nat) {es:List Fil} {ls:List Str},a≤s.length→ZeZ k (s.drop a)=some (es,ls)→
  (Zig s ls h a↔(s.drop h).take (ZcA ls a).length=ZcA ls a)
 | 0,a,h,es,ls,ha,hr=>by
  obtain ⟨rfl,rfl⟩:=Prod.mk.inj (Option.some.inj hr)
  simp [Zig,ZcA]
 | k+1,a,h,es,ls,ha,hr=>by
  rw [ZeZ] at hr
  cases hm:ZhW (s.drop a) with
  | none=>rw [hm] at hr;cases hr
  | some p=>
   obtain ⟨e,n⟩:=p
   rw [hm] at hr
   dsimp only at hr
   obtain ⟨h1,h2,h3,h4⟩:=ZrC hm
   rw [List.drop_drop] at hr
   cases hk:ZeZ k (s.drop (a+n)) with
   | none=>rw [hk] at hr;cases hr
   | some q=>
    obtain ⟨es',ls'⟩:=q
    rw [hk] at hr
    obtain ⟨rfl,rfl⟩:=Prod.mk.inj (Option.some.inj hr)
    have hc:(Zjg ((s.drop a).take n) a).length=46+leN s (a+26) 2:=by
     rw [Zk5 s a n h1]
     simp only [List.length_append,ZaM]
     rw [Zdy s (by omega) (by omega),Zdy s (by omega) (by omega)]
     omega
    have ih:=Zr4 s k (a+n) (h+(46+leN s (a+26) 2)) (by omega) hk
    unfold Zig ZcA
    rw [h3,h4,ZxX s a h n h1 (by omega),ih,List.length_append,ZqR,hc,List.drop_drop]
theorem Zls:∀(K:Nat) (s:Str),ZeZ (Zby K s).2.1.length s=some ((Zby K s).1,(Zby K s).2.1)∧(Zby K s).2.2=s.drop (Zgc (Zby K s).2.1)
 | 0,s=>by simp [Zby,ZeZ,Zgc]
 | K+1,s=>by
  cases hm:ZhW s with
  | none=>simp [Zby,hm,ZeZ,Zgc]
  | some p=>
   obtain ⟨e,n⟩:=p
   obtain ⟨h1,h2⟩:=Zls K (s.drop n)
   obtain ⟨_,hn,_⟩:=Zf4 hm
   have e1:Zby (K+1) s=(e::(Zby K (s.drop n)).1,s.take n::(Zby K (s.drop n)).2.1,(Zby K (s.drop n)).2.2):=by rw [Zby,hm]
   rw [e1]
   dsimp only
   rw [List.length_cons,ZeZ,hm]
   dsimp only
   rw [h1]
   refine ⟨rfl,?_⟩
   rw [h2,List.drop_drop]
   simp only [Zgc,List.map_cons,List.sum_cons,List.length_take]
   congr 1;omega
theorem Zlt:∀(k:Nat) (s:Str) {es:List Fil} {ls:List Str},ZeZ k s=some (es,ls)→∀K,k≤K→ZhW (s.drop (Zgc ls))=none→Zby K s=(es,ls,s.drop (Zgc ls))
 | 0,s,es,ls,h,K,hK,hs=>by
  obtain ⟨rfl,rfl⟩:=Prod.mk.inj (Option.some.inj h)
  have hs:ZhW s=none:=by simpa [Zgc] using hs
  cases K with
  | zero=>simp [Zby,Zgc]
  | succ K=>simp [Zby,hs,Zgc]
 | k+1,s,es,ls,h,K,hK,hs=>by
  rw [ZeZ] at h
  cases hm:ZhW s with
  | none=>rw [hm] at h;cases h
  | some p=>
   obtain ⟨e,n⟩:=p
   rw [hm] at h
   dsimp only at h
   cases hk:ZeZ k (s.drop n) with
   | none=>rw [hk] at h;cases h
   | some q=>
    obtain ⟨es',ls'⟩:=q
    rw [hk] at h
    obtain ⟨rfl,rfl⟩:=Prod.mk.inj (Option.some.inj h)
    obtain ⟨_,hn,_⟩:=Zf4 hm
    have es1:Zgc (s.take n::ls')=n+Zgc ls':=by
     simp only [Zgc,List.map_cons,List.sum_cons,List.length_take];omega
    obtain ⟨K,rfl⟩:∃K',K=K'+1:=⟨K-1,by omega⟩
    have ih:=Zlt k (s.drop n) hk K (by omega) (by rw [List.drop_drop,←es1];exact hs)
    rw [Zby,hm]
    dsimp only
    rw [ih,List.drop_drop,es1]
def ZwP (s:Str):Option (List Fil):=
 if s.length<12 then none else if 6<leN s (s.length-12) 2 then none else
  match ZeZ (leN s (s.length-12) 2) s with
  | none=>none
  | some (es,ls)=>if ZdR es=true∧s.drop (Zgc ls)=ZeT ls then some es else none
theorem ZrJ (x y:Str) (b k:Nat):leN (x++y) (x.length+b) k=leN y b k:=by
 unfold leN;rw [←List.drop_drop,List.drop_left]
theorem Zyb (many long a:Nat) (h:many<65536):leN (Zwy many long a) 10 2=many:=by
 have e:Zwy many long a=(leB 101010256 4++leB 0 4++leB many 2)++(leB many 2++(leB long 4++leB a 4++leB 0 2)):=by unfold Zwy;simp only [List.append_assoc]
 have:=ZrJ (leB 101010256 4++leB 0 4++leB many 2) (leB many 2++(leB long 4++leB a 4++leB 0 2)) 0 2
 simp only [List.length_append,ZaM] at this
 rw [e,this,Ztw _ _ _ (by omega)]
theorem ZyL (s:Str) (hs:s.length≤1048576):ZwP s=ZcH s:=by
 by_cases H:ZdR (Zby 6 s).1=true∧(Zby 6 s).2.2=ZeT (Zby 6 s).2.1
 ·obtain ⟨h1,h2⟩:=Zls 6 s
  obtain ⟨_,q2,_,_⟩:=Zmv 6 s hs
  unfold ZcH
  rw [if_pos H]
  obtain ⟨H1,H2⟩:=H
  rw [h2] at H2
  have hl:=congrArg List.length H2
  unfold ZeT at hl
  rw [List.length_drop,List.length_append,Zjd] at hl
  have hm:leN s (s.length-12) 2=(Zby 6 s).2.1.length:=by
   have e:s.length-12=Zgc (Zby 6 s).2.1+((ZcA (Zby 6 s).2.1 0).length+10):=by omega
   rw [e,←Zl0,H2]
   unfold ZeT
   rw [ZrJ,Zyb _ _ _ (by omega)]
  unfold ZwP
  rw [if_neg (by omega),hm,if_neg (by omega),h1]
  dsimp only
  rw [if_pos ⟨H1,H2⟩]
 ·unfold ZcH
  rw [if_neg H]
  unfold ZwP
  split
  ·rfl
  ·split
   ·rfl
   ·cases hk:ZeZ (leN s (s.length-12) 2) s with
    | none=>rfl
    | some q=>
     obtain ⟨es,ls⟩:=q
     dsimp only
     split
     ·rename_i h6 hc
      exfalso
      have:=Zlt _ s hk 6 (by omega) (by rw [hc.2];exact ZnD _ _ _ _ _)
      rw [this] at H
      exact H hc
     ·rfl
end Ev
end
section
namespace Ev
open Go
theorem Zr5 {s:Str} {h a:Nat} (q:ZiW s h a):leN s (h+28) 2=leN s (a+26) 2:=by
 obtain ⟨h1,h2,q1,_⟩:=q
 rw [ZkN,ZkN]
 have r1:=Zkp s (i:=h+6) (j:=h+32) (p:=22) (q:=2) (by omega)
 have r2:=Zkp s (i:=a+4) (j:=a+30) (p:=22) (q:=2) (by omega)
 rw [q1,r2] at r1
 rw [show h+6+22=h+28 by omega,show a+4+22=a+26 by omega] at r1
 rw [r1]
theorem Zjq (s:Str) (hs:s.length≤1048576) (K:Nat) (hK:K≤1000) (at_:Int) (list:List Fil):∀(k i a h:Nat) {es:List Fil} {ls:List Str},i+k=K→a≤s.length→h≤s.length→ZeZ k (s.drop a)=some (es,ls)→
  Ret (Zao.l0 (k+1) (s,(K:Int),at_,(h:Int),(a:Int),(i:Int),list)) fun r=>
   (Zig s ls h a→r=.inl (s,(K:Int),at_,((h+(ZcA ls a).length:Nat):Int),list)∧h+(ZcA ls a).length≤s.length)∧(¬Zig s ls h a→r=.inr (false,[]))
 | 0,i,a,h,es,ls,hi,ha,hh,hr=>by
  obtain ⟨rfl,rfl⟩:=Prod.mk.inj (Option.some.inj hr)
  rw [Zao.l0.succ];simp only [Zao.l0.step]
  rw [ZaQ (by omega)]
  exact .pure ⟨fun _=>⟨by simp [ZcA],by simpa [ZcA] using hh⟩,fun q=>absurd trivial q⟩
 | k+1,i,a,h,es,ls,hi,ha,hh,hr=>by
  rw [ZeZ] at hr
  cases hm:ZhW (s.drop a) with
  | none=>rw [hm] at hr;cases hr
  | some p=>
   obtain ⟨e,n⟩:=p
   rw [hm] at hr
   dsimp only at hr
   obtain ⟨h1,h2,h3,h4⟩:=ZrC hm
   rw [List.drop_drop] at hr
   cases hk:ZeZ k (s.drop (a+n)) with
   | none=>rw [hk] at hr;cases hr
   | some q=>
    obtain ⟨es',ls'⟩:=q
    rw [hk] at hr
    obtain ⟨rfl,rfl⟩:=Prod.mk.inj (Option.some.inj hr)
    have hc:(Zjg ((s.drop a).take n) a).length=46+leN s (a+26) 2:=by
     rw [Zk5 s a n h1]
     simp only [List.length_append,ZaM]
     rw [Zdy s (by omega) (by omega),Zdy s (by omega) (by omega)]
     omega
    rw [Zao.l0.succ];simp only [Zao.l0.step]
    rw [ZaP (by omega),cond_true]
    refine .bind (ZxF s hs h a (by omega) (by omega)) ?_
    rintro ⟨r3,r4⟩ ⟨g1,g2⟩
    dsimp only at g1 g2 ⊢
    cases r4 with
    | false=>
     have hn:¬ZiW s h a:=fun q=>by have:=g1.2 q;cases this
     exact .pure ⟨fun q=>absurd q.1 hn,fun _=>rfl⟩
    | true=>
     have hH:=g1.1 rfl
     have g2:=g2 hH
     rw [Zr5 hH] at g2
     have hb:=hH.1
     rw [Zr5 hH] at hb
     subst g2
     rw [Bool.not_true,cond_false,Zab _ (by simp;omega),Int.toNat_natCast]
     obtain ⟨r,er,hp⟩:=ZrM (s.drop a) (by rw [List.length_drop];omega)
     unfold Zqw at hp
     rw [hm] at hp
     dsimp only at hp
     subst hp
     rw [er]
     unfold ZzY
     dsimp only
     simp only [Zaa]
     have two:=ZgV s (a+26) 2
     rw [Zaf (n:=(h:Int)+((46+leN s (a+26) 2:Nat):Int)) (by omega) (by omega),Zaf (n:=(a:Int)+(n:Int)) (by omega) (by omega),Zaf (n:=(i:Int)+1) (by omega) (by omega),
      show (h:Int)+((46+leN s (a+26) 2:Nat):Int)=((h+(46+leN s (a+26) 2):Nat):Int) by omega,show (a:Int)+(n:Int)=((a+n:Nat):Int) by omega,show (i:Int)+1=((i+1:Nat):Int) by omega]
     refine (Zjq s hs K hK at_ list k (i+1) (a+n) (h+(46+leN s (a+26) 2)) (by omega) (by omega) (by omega) hk).mono ?_
     rintro r ⟨f1,f2⟩
     unfold Zig ZcA
     rw [h3,h4,List.length_append,hc]
     refine ⟨fun q=>?_,fun q=>f2 fun q'=>q ⟨hH,q'⟩⟩
     obtain ⟨f,f'⟩:=f1 q.2
     exact ⟨by rw [f,Nat.add_assoc],by omega⟩
theorem Zq6:∀(k:Nat) (s:Str) {es:List Fil} {ls:List Str},ZeZ k s=some (es,ls)→Zgc ls≤s.length∧(s.length≤1048576→∀e∈es,e.1.length≤1048576)∧(s.length≤1048576→∀l∈ls,Zqz l)
 | 0,s,es,ls,h=>by
  obtain ⟨rfl,rfl⟩:=Prod.mk.inj (Option.some.inj h);simp [Zgc]
 | k+1,s,es,ls,h=>by
  rw [ZeZ] at h
  cases hm:ZhW s with
  | none=>rw [hm] at h;cases h
  | some p=>
   obtain ⟨e,n⟩:=p
   rw [hm] at h
   dsimp only at h
   cases hk:ZeZ k (s.drop n) with
   | none=>rw [hk] at h;cases h
   | some q=>
    obtain ⟨es',ls'⟩:=q
    rw [hk] at h
    obtain ⟨rfl,rfl⟩:=Prod.mk.inj (Option.some.inj h)
    obtain ⟨i1,i2,i3⟩:=Zq6 k (s.drop n) hk
    obtain ⟨_,hn,_⟩:=Zf4 hm
    rw [List.length_drop] at i1 i2 i3
    refine ⟨?_,fun hs=>?_,fun hs=>?_⟩
    ·simp only [Zgc,List.map_cons,List.sum_cons,List.length_take] at i1 ⊢;omega
    ·intro x hx
     rcases List.mem_cons.1 hx with rfl | hx
     ·exact (Ztr hm hs).2
     ·exact i2 (by omega) x hx
    ·intro x hx
     rcases List.mem_cons.1 hx with rfl | hx
     ·exact (Ztr hm hs).1
     ·exact i3 (by omega) x hx
theorem ZpE (s:Str) (hs:s.length≤1048576):Zao s=some (ZqG (ZwP s)):=by
 unfold Zao ZwP
 by_cases c12:s.length<12
 ·have e:Zch s (w64 ((s.length:Int)-12)) 2=some (-1):=by
   rw [Zaf (by omega) (by omega)]
   unfold Zch
   rw [decide_eq_true (by omega)];rfl
  rw [e,if_pos c12]
  rfl
 rw [if_neg c12,Zaf (n:=(s.length:Int)-12) (by omega) (by omega),show (s.length:Int)-12=((s.length-12:Nat):Int) by omega]
 have q:=Zp1 s (s.length-12) 2 (by omega) (by omega) (by omega) (by omega)
 rw [show ((2:Nat):Int)=2 from rfl,if_pos (by omega)] at q
 have two:=ZgV s (s.length-12) 2
 rw [q]
 simp only [Zaa]
 generalize leN s (s.length-12) 2=m at two
 rw [Zl1]
 simp only [Zaa]
 by_cases c6:6<m
 ·rw [if_pos c6,decide_eq_false (by omega)];rfl
 rw [if_neg c6,decide_eq_true (by omega),Bool.not_true,cond_false]
 obtain ⟨r,er,hr⟩:=Zuw s hs m (by omega) m 0 0 [] (by omega) (by omega) rfl
 rw [show ((0:Nat):Int)=0 from rfl] at er
 rw [List.drop_zero] at hr
 unfold Zfi
 rw [ZaA,er]
 simp only [Zaa]
 cases hk:ZeZ m s with
 | none=>
  rw [hk] at hr
  dsimp only at hr
  obtain ⟨a',o',rfl⟩:=hr
  rfl
 | some p=>
  obtain ⟨es,ls⟩:=p
  rw [hk] at hr
  dsimp only at hr
  subst hr
  obtain ⟨i1,i2,i3⟩:=Zq6 m s hk
  obtain ⟨n1,n2⟩:=Zq7 m s hk
  dsimp only
  simp only [Zaa,Nat.zero_add,List.nil_append,Bool.not_true,cond_false]
  rw [Zvi es (by omega) (i2 hs)]
  simp only [Zaa]
  cases hz:ZdR es with
  | false=>rw [if_neg (by simp)];rfl
  | true=>
   simp only [Bool.not_true,cond_false]
   obtain ⟨r,er,h1,h2⟩:=Zjq s hs m (by omega) ((Zgc ls:Nat):Int) es m 0 0 (Zgc ls) (by omega) (by omega) i1 (by rw [List.drop_zero];exact hk)
   rw [show ((0:Nat):Int)=0 from rfl] at er
   rw [er]
   simp only [Zaa]
   have hi:=Zr4 s m 0 (Zgc ls) (Nat.zero_le _) (by rw [List.drop_zero];exact hk)
   by_cases hH:Zig s ls (Zgc ls) 0
   ·obtain ⟨rfl,hle⟩:=h1 hH
    have hH':=hi.1 hH
    dsimp only
    rw [Zab _ (by simp;omega),Zaf (by omega) (by omega),show (((Zgc ls+(ZcA ls 0).length:Nat):Int)-((Zgc ls:Nat):Int))=(((ZcA ls 0).length:Nat):Int) by omega,Int.toNat_natCast,Zux m _ _ (by omega) (by omega) (by omega)]
    simp only [Zaa]
    have key:s.drop (Zgc ls)=ZeT ls↔s.drop (Zgc ls+(ZcA ls 0).length)=Zwy m (ZcA ls 0).length (Zgc ls):=by
     unfold ZeT
     rw [n1,←List.drop_drop]
     constructor
     ·intro e;rw [e,List.drop_left' rfl]
     ·intro e
      rw [←List.take_append_drop (ZcA ls 0).length (s.drop (Zgc ls)),hH',e]
    by_cases hc:s.drop (Zgc ls)=ZeT ls
    ·rw [if_pos ⟨trivial,hc⟩,key.1 hc,beq_self_eq_true];rfl
    ·rw [if_neg (fun q=>hc q.2),beq_false_of_ne (fun q=>hc (key.2 q))];rfl
   ·obtain rfl:=h2 hH
    have hc:¬s.drop (Zgc ls)=ZeT ls:=fun q=>hH (hi.2 (by rw [q];unfold ZeT;rw [List.take_left' rfl]))
    rw [if_neg (fun q=>hc q.2)]
    rfl
theorem ZdV (s:Str) (hs:s.length≤1048576):Zao s=some (ZqG (ZcH s)):=by rw [ZpE s hs,ZyL s hs]
end Ev
end
section
namespace Ev
open Go
def Tk.Pos (ls ds:List Nat):Tk→Prop
 | .lit c=>c<ls.length∧0<ls.getD c 0
 | .far l k=>(257+ZbW Zaz l<ls.length∧0<ls.getD (257+ZbW Zaz l) 0)∧ZbW ZaU k<ds.length∧0<ds.getD (ZbW ZaU k) 0
theorem ZgS (ns:List Nat) (hk:Zbw ns≤32768) (h15:∀n∈ns,n≤15) (i:Nat) (hi:i<ns.length) (h0:0<ns.getD i 0) (rest:List Bool):Zlz ns (some (Zjl ns i++rest))=some (i,rest):=by
 rw [ZAg ns h15 i hi h0];exact Zxk ns hk h15 i hi h0 rest
theorem Ze8 (k n:Nat) (rest:List Bool):ZbN k (some (ZbM n k++rest))=some rest:=by
 unfold ZbN
 dsimp only
 rw [if_pos (by rw [List.length_append,Zaj];omega),List.drop_left' (Zaj n k)]
theorem Zd6 (k n:Nat) (hn:n<2^k) (rest:List Bool):Zcr ((ZbM n k++rest).take k)=n:=by
 rw [List.take_left' (Zaj n k),Zjp,Nat.mod_eq_of_lt hn]
theorem Zxo (ds:List Nat) (hkd:Zbw ds≤32768) (hd:∀n∈ds,n≤15) (go:List Bool→List Int→Option (List Bool×List Int)) (l k:Nat) (h:(Tk.far l k).Ok)
  (hp:ZbW ZaU k<ds.length∧0<ds.getD (ZbW ZaU k) 0) (out o:List Int) (rest:List Bool) (hf:ZqD out l k=some o) :
  ZoM ds go (ZbW Zaz l) (ZbM (l-Zaz.getD (ZbW Zaz l) 0) (Zcz.getD (ZbW Zaz l) 0)++(Zjl ds (ZbW ZaU k)++(ZbM (k-ZaU.getD (ZbW ZaU k) 0) (Zdk.getD (ZbW ZaU k) 0)++rest))) out=go rest o:=by
 obtain ⟨h1,h2,h3,h4⟩:=h
 obtain ⟨_,_,a1,a2,a3⟩:=ZfD l h1 h2
 obtain ⟨_,_,b1,b2,b3⟩:=Zgh k h3 h4
 unfold ZoM
 rw [Ze8,ZgS ds hkd hd _ hp.1 hp.2]
 dsimp only
 rw [if_neg (by omega),Ze8]
 dsimp only
 rw [Zd6 _ _ a3,Zd6 _ _ b3,show Zaz.getD (ZbW Zaz l) 0+(l-Zaz.getD (ZbW Zaz l) 0)=l by omega,show ZaU.getD (ZbW ZaU k) 0+(k-ZaU.getD (ZbW ZaU k) 0)=k by omega,hf]
theorem ZmI (ls ds:List Nat) (hkl:Zbw ls≤32768) (hkd:Zbw ds≤32768) (hl:∀n∈ls,n≤15) (hd:∀n∈ds,n≤15) (he:256<ls.length∧0<ls.getD 256 0) (s:Str) (hs:s.length≤300) (rest:List Bool) :
  ∀(F a f:Nat),a≤s.length→s.length≤a+F→(Zfd s F a).length<f→(∀t∈Zfd s F a,t.Pos ls ds)→Zuo ls ds f (ZfU ls ds (Zfd s F a)++rest) (ints (s.take a))=some (rest,ints s)
 | 0,a,f,ha,hF,hf,hp=>by
  obtain ⟨f',rfl⟩:∃f',f=f'+1:=⟨f-1,by omega⟩
  rw [ZgR]
  unfold Zrr
  rw [if_neg (by rw [ZdK,List.length_take];omega)]
  simp only [Zfd,ZfU]
  rw [ZgS ls hkl hl 256 he.1 he.2]
  dsimp only
  rw [if_pos rfl,List.take_of_length_le (by omega)]
 | F+1,a,f,ha,hF,hf,hp=>by
  obtain ⟨f',rfl⟩:∃f',f=f'+1:=⟨f-1,by omega⟩
  by_cases c:a<s.length
  ·have e:Zfd s (F+1) a=Zke s a::Zfd s F (a+(Zke s a).long):=by rw [Zfd,if_pos c]
   have hok:=ZlV s (F+1) a ha
   rw [e] at hf hp hok ⊢
   have hp0:=hp _ (List.mem_cons_self ..)
   have hp1:∀t∈Zfd s F (a+(Zke s a).long),t.Pos ls ds:=fun t ht=>hp t (List.mem_cons_of_mem _ ht)
   have hok0:=hok _ (List.mem_cons_self ..)
   rw [List.length_cons] at hf
   have hlong:=Zmk s a
   rw [ZgR]
   unfold Zrr
   rw [if_neg (by rw [ZdK,List.length_take];omega),ZfU]
   cases ht:Zke s a with
   | lit ch=>
    have hch:=Zt3 ht
    rw [ht] at hp0 hok0 hf hp1
    have hlt:ch<256:=hok0
    simp only [ZqA,List.append_assoc]
    rw [ZgS ls hkl hl ch hp0.1 hp0.2]
    dsimp only
    rw [if_neg (by omega),if_pos hlt]
    have ih:=ZmI ls ds hkl hkd hl hd he s hs rest F (a+1) f' (by omega) (by omega) (by simpa [Tk.long] using hf) (by simpa [Tk.long] using hp1)
    have e1:ints (s.take (a+1))=ints (s.take a)++[(ch:Int)]:=by
     rw [Zkn s a 0 c,Zm5,hch];rfl
    rw [←e1]
    exact ih
   | far l k=>
    obtain ⟨g1,g2,g3,g4,g5,g6⟩:=Zt4 ht ha
    rw [ht] at hp0 hok0 hf hp1
    obtain ⟨⟨q1,q2⟩,q3,q4⟩:=hp0
    obtain ⟨_,_,a1,_,_⟩:=ZfD l g1 g2
    simp only [ZqA,List.append_assoc]
    rw [ZgS ls hkl hl _ q1 q2]
    dsimp only
    rw [if_neg (by omega),if_neg (by omega),if_neg (by omega),Nat.add_sub_cancel_left,Zxo ds hkd hd _ l k hok0 ⟨q3,q4⟩ _ _ _ g6]
    exact ZmI ls ds hkl hkd hl hd he s hs rest F (a+l) f' (by omega) (by omega) (by simpa [Tk.long] using hf) (by simpa [Tk.long] using hp1)
  ·have e:Zfd s (F+1) a=[]:=by rw [Zfd,if_neg c]
   rw [e,ZgR]
   unfold Zrr
   rw [if_neg (by rw [ZdK,List.length_take];omega)]
   simp only [ZfU]
   rw [ZgS ls hkl hl 256 he.1 he.2]
   dsimp only
   rw [if_pos rfl,List.take_of_length_le (by omega)]
theorem Zpz (ns:List Nat) (i:Nat):(Zjl ns i).length=ns.getD i 0:=by
 unfold Zjl msb;rw [List.length_reverse,Zaj]
theorem ZqO (ls ds:List Nat) (he:0<ls.getD 256 0):∀ts:List Tk,(∀t∈ts,t.Pos ls ds)→ts.length+1≤(ZfU ls ds ts).length
 | [],_=>by rw [ZfU,Zpz,List.length_nil];omega
 | t::r,h=>by
  have ih:=ZqO ls ds he r (fun x hx=>h x (List.mem_cons_of_mem _ hx))
  have h0:=h t (List.mem_cons_self ..)
  have:1≤(ZqA ls ds t).length:=by
   cases t with
   | lit c=>rw [ZqA,Zpz];have:=h0.2;omega
   | far l k=>rw [ZqA,List.length_append,Zpz];have:=h0.1.2;omega
  rw [ZfU,List.length_append,List.length_cons];omega
theorem ZmR {ns:List Nat} (h:Zde ns=true):Zbw ns≤32768:=by
 unfold Zde at h
 simp only [Bool.and_eq_true,Bool.or_eq_true,decide_eq_true_eq] at h
 rcases h.2.2 with h | h
 ·omega
 ·omega
theorem ZoI (ls ds:List Nat) (h1:Zde ls=true) (h2:Zde ds=true) (he:256<ls.length∧0<ls.getD 256 0) (s:Str) (hs:s.length≤300) (hp:∀t∈ZiG s,t.Pos ls ds) (rest:List Bool) :
  ZiC ls ds (some (ZfU ls ds (ZiG s)++rest)) []=some (rest,ints s):=by
 have hl:=ZqO ls ds he.2 (ZiG s) hp
 unfold ZiC
 dsimp only
 rw [h1,h2,Bool.and_self,if_pos rfl]
 have:=ZmI ls ds (ZmR h1) (ZmR h2) (Zgm h1).2 (Zgm h2).2 he s hs rest s.length 0 ((ZfU ls ds (ZiG s)++rest).length+1) (Nat.zero_le _) (by omega) (by rw [List.length_append];unfold ZiG at hl;unfold ZiG;omega) hp
 exact this
theorem Zpt:∀n,Zcr (List.replicate n false)=0
 | 0=>rfl
 | n+1=>by rw [List.replicate_succ,Zcr,Zpt n];rfl
theorem ZvO (z:Nat) (h:z<8):Zd0 (some (List.replicate z false))=some []:=by
 unfold Zd0
 dsimp only
 rw [List.length_replicate,Nat.mod_eq_of_lt h,List.take_of_length_le (by simp),Zpt,if_pos rfl,List.drop_eq_nil_of_le (by simp)]
theorem Zxm (b body:List Bool) (k:Nat) (hk:k<4) (o:List Int) (ho:o.length≤300) (hb:b=true::(ZbM k 2++body)) (h:∀rest,Zd9 k (some (body++rest)) []=some (rest,o)) :
  ZqC (ZhN b)=some (o,(ZhN b).length):=by
 subst hb
 unfold ZqC
 rw [ZsD]
 unfold ZiE
 generalize hz:(8-(true::(ZbM k 2++body)).length%8)%8=z
 have hz8:z<8:=by rw [←hz];exact Nat.mod_lt _ (by decide)
 rw [List.cons_append,mGo,ZfQ,List.append_assoc,Zd6 2 k (by omega),Ze8,h]
 simp only [Option.map_some,Option.bind_some]
 rw [if_neg (by omega),if_pos trivial]
 simp only [Option.bind_some]
 rw [ZvO z hz8]
 simp
theorem ZAG (t:Tk) (h:t.Ok):t.Pos Znl Zn6:=by
 have hL:∀i,i<288→0<Znl.getD i 0:=by decide +kernel
 have hD:∀i,i<32→0<Zn6.getD i 0:=by decide +kernel
 cases t with
 | lit c=>
  have h:c<256:=h
  exact ⟨by rw [Zc7];omega,hL c (by omega)⟩
 | far l k=>
  obtain ⟨h1,h2,h3,h4⟩:=h
  obtain ⟨_,_,a1,_,_⟩:=ZfD l h1 h2
  obtain ⟨_,_,b1,_,_⟩:=Zgh k h3 h4
  exact ⟨⟨by rw [Zc7];omega,hL _ (by omega)⟩,by rw [Zhp];omega,hD _ (by omega)⟩
theorem Zv8:Zde Znl=true:=by decide +kernel
theorem Zv9:Zde Zn6=true:=by decide +kernel
theorem ZvM (s:Str) (hs:s.length≤300):ZqC (ZhC s)=some (ints s,(ZhC s).length):=by
 unfold ZhC
 refine Zxm (Zx3 s) (ZfU Znl Zn6 (ZiG s)) 1 (by omega) _ (by rw [ZdK];exact hs) ?_ fun rest=>?_
 ·unfold Zx3
  rw [List.append_assoc,show ZbM 1 1=[true] from rfl];rfl
 ·unfold Zd9
  rw [if_neg (by omega),if_pos rfl]
  exact ZoI Znl Zn6 Zv8 Zv9 (by rw [Zc7];exact ⟨by omega,by decide +kernel⟩) s hs (fun t ht=>ZAG t (ZgB s t ht)) rest
theorem ZnH:∀s:Str,Zgv s.length (ZcQ s)=ints s
 | []=>rfl
 | c::r=>by
  rw [List.length_cons,Zgv,ZcQ,List.take_left' (Zaj _ _),List.drop_left' (Zaj _ _),ZnH r,Zjp,Nat.mod_eq_of_lt (by have:=c.toNat_lt;simpa using this)]
  rfl
theorem ZvL (s:Str) (hs:s.length≤300):ZqC (Zhw s)=some (ints s,(Zhw s).length):=by
 have hb:ZcQ (Zhw s)=Zo4++(ZbM s.length 16++(ZbM (65535-s.length) 16++ZcQ s)):=by
  unfold Zhw
  rw [Zj7,Zhs 5 (ZfW s.length) (by unfold ZfW;simp only [List.length_append,Zaj];rfl)]
  unfold ZfW
  simp only [List.append_assoc]
 have hlen:(ZcQ s).length=8*s.length:=Zc3 s
 unfold ZqC
 rw [hb]
 have h8:∀r:List Bool,Zo4++r=true::(ZbM 0 2++(List.replicate 5 false++r)):=fun r=>rfl
 rw [h8,mGo,ZfQ,Zd6 2 0 (by omega),Ze8]
 unfold Zd9
 rw [if_pos rfl]
 unfold Zf2 Zd0
 dsimp only
 rw [show (List.replicate 5 false++(ZbM s.length 16++(ZbM (65535-s.length) 16++ZcQ s))).length%8=5 by simp only [List.length_append,List.length_replicate,Zaj,hlen];omega,
  List.take_left' (List.length_replicate ..),Zpt,if_pos rfl,List.drop_left' (List.length_replicate ..)]
 dsimp only
 rw [Ze8]
 dsimp only
 rw [Ze8]
 dsimp only
 rw [Zd6 16 s.length (by omega),Zd6 16 (65535-s.length) (by omega),if_neg (by omega)]
 simp only [Option.map_some,Option.bind_some,List.nil_append]
 rw [if_neg (by rw [ZfP];omega),if_pos trivial,ZnH,List.drop_eq_nil_of_le (by omega)]
 simp [Zcr]
end Ev
end
section
namespace Ev
open Go
theorem ZoK (M:List Nat) (h7:∀i,M.getD i 0≤7) (rest:List Bool):∀(is A:List Nat),Zhi is (ZeM M is++rest) A=some (rest,is.foldl (fun A k=>A.set k (M.getD k 0)) A)
 | [],A=>rfl
 | k::r,A=>by
  have e:ZeM M (k::r)=ZbM (M.getD k 0) 3++ZeM M r:=by simp [ZeM]
  have:=h7 k
  rw [e,List.append_assoc,Zhi,Ze8]
  dsimp only
  rw [Zd6 3 _ (by omega),ZoK M h7 rest r]
  rfl
theorem ZvC (a0 a1 a2 a3 a4 a5 a6 a7 a8 a9 a10 a11 a12 a13 a14 a15 a16 a17 a18:Nat):ZaV.foldl (fun A k=>A.set k ([a0,a1,a2,a3,a4,a5,a6,a7,a8,a9,a10,a11,a12,a13,a14,a15,a16,a17,a18].getD k 0)) (List.replicate 19 0)=[a0,a1,a2,a3,a4,a5,a6,a7,a8,a9,a10,a11,a12,a13,a14,a15,a16,a17,a18]:=by kernel_rfl
theorem Zw3 (M:List Nat) (h:M.length=19):ZaV.foldl (fun A k=>A.set k (M.getD k 0)) (List.replicate 19 0)=M:=by
 match M,h with
 | [a0,a1,a2,a3,a4,a5,a6,a7,a8,a9,a10,a11,a12,a13,a14,a15,a16,a17,a18],_=>exact ZvC a0 a1 a2 a3 a4 a5 a6 a7 a8 a9 a10 a11 a12 a13 a14 a15 a16 a17 a18
theorem ZrA (M:List Nat) (hk:Zbw M≤32768) (h15:∀n∈M,n≤15) (rest:List Bool) (n:Nat):∀(S all:List Nat) (f:Nat),(∀s∈S,s<M.length∧0<M.getD s 0∧s<16)→all.length+S.length=n→S.length<f→
  Zwx M n f (Zkg M S++rest) all=some (rest,all++S)
 | [],all,f,h,hn,hf=>by
  obtain ⟨f',rfl⟩:∃f',f=f'+1:=⟨f-1,by omega⟩
  rw [Zf3]
  unfold ZfH
  rw [if_neg (by simp at hn;omega)]
  simp [Zkg]
 | s::r,all,f,h,hn,hf=>by
  obtain ⟨f',rfl⟩:∃f',f=f'+1:=⟨f-1,by omega⟩
  obtain ⟨h1,h2,h3⟩:=h s (List.mem_cons_self ..)
  rw [List.length_cons] at hn hf
  have e:Zkg M (s::r)=Zjl M s++Zkg M r:=by simp [Zkg]
  rw [Zf3]
  unfold ZfH
  rw [if_pos (by omega),e,List.append_assoc,ZgS M hk h15 s h1 h2]
  dsimp only
  unfold Zzc
  rw [if_pos h3]
  simp only [Option.bind_some]
  rw [ZrA M hk h15 rest n r (all++[s]) f' (fun x hx=>h x (List.mem_cons_of_mem _ hx)) (by simp;omega) (by omega),List.append_assoc]
  rfl
theorem ZpX {ns:List Nat} (h1:ns.length≤300) (h2:∀n∈ns,n≤15) (h3:Zbw ns=32768∨Zfc ns=1∧Zbw ns=16384):Zde ns=true:=by
 unfold Zde
 simp only [Bool.and_eq_true,Bool.or_eq_true,decide_eq_true_eq,List.all_eq_true]
 exact ⟨h1,h2,h3⟩
theorem Zxl (ts:List Tk) (hO:Zif ts) (rest:List Bool) :
  ZgU (some (ZbM ((Zeq ts).length-257) 5++(ZbM ((ZeR ts).length-1) 5++(ZbM 15 4++(ZeM (Zge ts) ZaV++(Zkg (Zge ts) (ZgE ts)++rest))))))=some (Zeq ts,ZeR ts,rest):=by
 have l1:=hO.l1
 have l2:=hO.l2
 have d1:=hO.d1
 have d2:=hO.d2
 have hSl:(ZgE ts).length=(Zeq ts).length+(ZeR ts).length:=by unfold ZgE;rw [List.length_append]
 have h16:∀s∈ZgE ts,s<16:=fun s hs=>by
  unfold ZgE at hs
  rcases List.mem_append.1 hs with h | h
  ·have:=hO.l15 s h;omega
  ·have:=hO.d15 s h;omega
 have hML:Zde (Zge ts)=true:=ZpX (by rw [hO.ml];omega) hO.m15 hO.m.ok
 unfold ZgU
 dsimp only
 rw [Ze8]
 dsimp only
 rw [Ze8]
 dsimp only
 rw [Ze8]
 dsimp only
 rw [Zd6 5 _ (by omega),Zd6 5 _ (by omega),Zd6 4 15 (by omega)]
 unfold ZlA
 rw [show ZaV.take (15+4)=ZaV from rfl,ZoK (Zge ts) hO.m7,Zw3 _ hO.ml]
 dsimp only
 have hneg:¬(Zde (Zge ts)=false∨286<(Zeq ts).length-257+257∨30<(ZeR ts).length-1+1):=by
  rintro (q | q | q)
  ·rw [hML] at q;cases q
  ·omega
  ·omega
 rw [if_neg hneg,show (Zeq ts).length-257+257=(Zeq ts).length by omega,show (ZeR ts).length-1+1=(ZeR ts).length by omega,
  ZrA (Zge ts) hO.km hO.m15 rest ((Zeq ts).length+(ZeR ts).length) (ZgE ts) [] _ (fun s hs=>⟨by rw [hO.ml];exact (hO.mpos s hs).2,(hO.mpos s hs).1,h16 s hs⟩) (by rw [hSl];simp) (by omega)]
 dsimp only
 rw [List.nil_append,if_pos hSl]
 unfold ZgE
 rw [List.take_left' rfl,List.drop_left' rfl]
theorem Zif.pos {ts:List Tk} (h:Zif ts):∀t∈ts,t.Pos (Zeq ts) (ZeR ts):=fun t ht=>by
 cases t with
 | lit c=>have:=h.lpos c (List.mem_flatMap.2 ⟨_,ht,by simp [Ztt]⟩);exact ⟨this.2,this.1⟩
 | far l k=>
  have h1:=h.lpos (257+ZbW Zaz l) (List.mem_flatMap.2 ⟨_,ht,by simp [Ztt]⟩)
  have h2:=h.dpos (ZbW ZaU k) (List.mem_flatMap.2 ⟨_,ht,by simp [Zwm]⟩)
  exact ⟨⟨h1.2,h1.1⟩,h2.2,h2.1⟩
theorem Zzd (s:Str) (hs:s.length≤300):ZqC (ZvB s)=some (ints s,(ZvB s).length):=by
 have hlen:(ZiG s).length≤300:=Nat.le_trans (ZfT s) hs
 have hO:=ZwZ (ZiG s) (ZgB s) hlen
 unfold ZvB
 refine Zxm (ownB (ZiG s)) (ZbM ((Zeq (ZiG s)).length-257) 5++(ZbM ((ZeR (ZiG s)).length-1) 5++(ZbM 15 4++(ZeM (Zge (ZiG s)) ZaV++(Zkg (Zge (ZiG s)) (ZgE (ZiG s))++ZfU (Zeq (ZiG s)) (ZeR (ZiG s)) (ZiG s)))))) 2 (by omega) _ (by rw [ZdK];exact hs) ?_ fun rest=>?_
 ·unfold ownB ZoB
  simp only [List.append_assoc,List.nil_append,show ZbM 1 1=[true] from rfl,List.cons_append]
 ·simp only [List.append_assoc]
  unfold Zd9
  rw [if_neg (by omega),if_neg (by omega),if_pos rfl,Zxl _ hO]
  dsimp only
  exact ZoI _ _ (ZpX (by have:=hO.l2;omega) hO.l15 hO.lk) (ZpX (by have:=hO.d2;omega) hO.d15 hO.dk) ⟨by have:=hO.l1;omega,hO.epos⟩ s hs hO.pos rest
theorem Ziz (s:Str):(Zd4 s).length≤s.length+5:=by
 have:=ZpC s
 unfold Zd4
 dsimp only
 split<;>split<;>omega
theorem Zrw (s:Str) (hs:s.length≤300):ZqC (Zd4 s)=some (ints s,(Zd4 s).length):=by
 have h:Zd4 s=ZvB s∨Zd4 s=ZhC s∨Zd4 s=Zhw s:=by
  unfold Zd4
  dsimp only
  by_cases c1:(ZhC s).length<(Zhw s).length
  ·rw [if_pos c1];split
   ·exact .inl rfl
   ·exact .inr (.inl rfl)
  ·rw [if_neg c1];split
   ·exact .inl rfl
   ·exact .inr (.inr rfl)
 rcases h with h | h | h<;>rw [h]
 ·exact Zzd s hs
 ·exact ZvM s hs
 ·exact ZvL s hs
theorem ZtH (s:Str) (hs:s.length≤300):ZhB (Zd4 s)=(s,((Zd4 s).length:Int),true):=by
 have:=Ziz s
 unfold ZhB
 rw [if_neg (by omega),Zrw s hs]
 unfold Zv3 ints
 dsimp only
 rw [ZhL]
end Ev
end
section
namespace Ev
open Go
theorem Zst (b:UInt8):∀s:Str,((ZbF b s).map fun p=>p.length+1).sum=s.length+1
 | []=>rfl
 | c::s=>by
  have ih:=Zst b s
  simp only [ZbF]
  split
  ·rw [List.map_cons,List.sum_cons,ih,List.length_cons,List.length_nil];omega
  ·cases hc:ZbF b s with
   | nil=>exact absurd hc (Zfa b s)
   | cons p r=>
    rw [hc] at ih
    simp only [List.map_cons,List.sum_cons,List.length_cons] at ih ⊢
    omega
theorem ZgO {α:Type} (f:α→Nat) (k:Nat):∀l:List α,(∀x∈l,f x≤k)→(l.map f).sum≤k*l.length
 | [],_=>by simp
 | x::l,h=>by
  have h1:=h x (List.mem_cons_self ..)
  have h2:=ZgO f k l (fun y hy=>h y (List.mem_cons_of_mem _ hy))
  rw [List.map_cons,List.sum_cons,List.length_cons,Nat.mul_add];omega
theorem Zdw {s:Str} (h:Zdd s=true):1≤s.length∧s.length≤43:=by
 unfold Zdd at h
 rw [Bool.and_eq_true,List.all_eq_true,decide_eq_true_eq] at h
 obtain ⟨h1,h2⟩:=h
 have hs:=Zst 47 s
 have hp:∀p∈ZbF 47 s,1≤p.length∧p.length≤10:=fun p hp=>by
  have:=h1 p hp
  unfold part at this
  simp only [Bool.and_eq_true,decide_eq_true_eq] at this
  exact this.2.1
 have hm:=ZgO (fun p:Str=>p.length+1) 11 (ZbF 47 s) (fun p h=>by have:=hp p h;omega)
 refine ⟨?_,by omega⟩
 cases hc:ZbF 47 s with
 | nil=>exact absurd hc (Zfa 47 s)
 | cons p r=>
  have:=(hp p (by rw [hc];exact List.mem_cons_self ..)).1
  rw [hc,List.map_cons,List.sum_cons] at hs
  omega
abbrev Fil.txt (e:Fil):Str:=e.2.2.2.2.2.2.2
def ZeL (text:Str):Nat×Str:=if (Zd4 text).length<text.length then (8,Zd4 text) else (0,text)
def stF (e:Fil):Nat:=stN e.2.1.toNat e.2.2.1.toNat e.2.2.2.1.toNat e.2.2.2.2.1.toNat e.2.2.2.2.2.1.toNat e.2.2.2.2.2.2.1.toNat
def Zxs (e:Fil):Str:=Zr6 (ZeL e.txt).1 (stF e) (Zqn e.txt) (ZeL e.txt).2.length e.txt.length e.1.length
def Zhz (e:Fil):Str:=Zxs e++(e.1++(ZeL e.txt).2)
theorem Zdn (a b c d e f:Nat):(Zr6 a b c d e f).length=30:=by
 unfold Zr6;simp only [List.length_append,ZaM]
theorem Zjw (t:Str):(ZeL t).2.length≤t.length∧(ZeL t).1≤8:=by
 unfold ZeL
 split
 ·exact ⟨by dsimp only;omega,by dsimp only;omega⟩
 ·exact ⟨Nat.le_refl _,by dsimp only;omega⟩
theorem unpM_8 (body t:Str) (h:ZhB body=(t,(body.length:Int),true)):ZyB 8 body=some t:=by
 unfold ZyB
 rw [h,if_neg (by omega),if_pos rfl]
 exact if_pos ⟨rfl,rfl⟩
theorem unpM_0 (body:Str):ZyB 0 body=some body:=by
 unfold ZyB;rw [if_pos rfl]
theorem ZyY (t:Str) (ht:t.length≤300):ZyB (ZeL t).1 (ZeL t).2=some t:=by
 have h8:=unpM_8 (Zd4 t) t (ZtH t ht)
 have h0:=unpM_0 t
 unfold ZeL
 generalize Zd4 t=b at h8 ⊢
 split
 ·exact h8
 ·exact h0
theorem Zhl (e:Fil):(Zhz e).length=30+e.1.length+(ZeL e.txt).2.length:=by
 unfold Zhz Zxs;rw [List.length_append,List.length_append,Zdn];omega
theorem ZbD {e:Fil} (h:Zcj e=true):Zdd e.1=true∧stM e.2.1 e.2.2.1 e.2.2.2.1 e.2.2.2.2.1 e.2.2.2.2.2.1 e.2.2.2.2.2.2.1=true∧e.txt.length≤300:=by
 unfold Zcj at h
 simp only [Bool.and_eq_true,decide_eq_true_eq] at h
 exact ⟨h.1,h.2.1,h.2.2⟩
set_option maxRecDepth 100000 in
theorem Zxr (e:Fil) (h:Zcj e=true) (x:Str):ZhW (Zhz e++x)=some (e,(Zhz e).length):=by
 obtain ⟨h1,h2,h3⟩:=ZbD h
 have hL:=Zhl e
 have hnl:=Zdw h1
 have hp:=Zjw e.txt
 have hu:=ZyY e.txt h3
 have hc:=ZgI e.txt
 obtain ⟨y,mo,d,hh,mi,sec,e1,e2,e3,e4,e5,e6,_⟩:=Zkr h2
 have hst:stF e=stN y mo d hh mi sec:=by
  unfold stF;rw [e1,e2,e3,e4,e5,e6];simp only [Int.toNat_natCast]
 rw [e1,e2,e3,e4,e5,e6] at h2
 obtain ⟨g1,g2⟩:=ZpD h2
 rw [←hst] at g1 g2
 obtain ⟨s,hs⟩:∃s,s=Zhz e++x:=⟨_,rfl⟩
 rw [←hs]
 have hsl:s.length=(Zhz e).length+x.length:=by rw [hs,List.length_append]
 have happ:s=Zxs e++(e.1++((ZeL e.txt).2++x)):=by rw [hs];unfold Zhz;simp only [List.append_assoc]
 have hl30:(Zxs e).length=30:=Zdn _ _ _ _ _ _
 have ht30:Zxs e=s.take 30:=by rw [happ,List.take_left' hl30]
 have hd30:s.drop 30=e.1++((ZeL e.txt).2++x):=by rw [happ,List.drop_left' hl30]
 have hname:(s.drop 30).take e.1.length=e.1:=by rw [hd30,List.take_left' rfl]
 have hbody:(s.drop (30+e.1.length)).take (ZeL e.txt).2.length=(ZeL e.txt).2:=by
  rw [←List.drop_drop,hd30,List.drop_left' rfl,List.take_left' rfl]
 obtain ⟨q1,q2,q3,q4,q5,q6,q7,q8,q9,q10⟩:=(Zp8 s (by omega) (ZeL e.txt).1 (stF e) (Zqn e.txt) (ZeL e.txt).2.length e.txt.length e.1.length (by omega) g2 hc (by omega) (by omega) (by omega)).1 ht30
 unfold ZhW
 rw [if_neg (by omega),q9,q7,if_neg (by omega),q4,hbody,hu]
 dsimp only
 have hC:Zts s e.txt:=by
  unfold Zts
  rw [q9,hname,q5,g1]
  exact ⟨h1,h2,h3,q1,q2,q3,q10,q6,q8⟩
 rw [if_pos hC,hname,q5,g1]
 dsimp only
 rw [←e1,←e2,←e3,←e4,←e5,←e6,←hL]
end Ev
end
section
namespace Ev
open Go
def Zn5 (es:List Fil):Str:=(es.map Zhz).flatten
def Zeu (es:List Fil):Str:=Zn5 es++ZeT (es.map Zhz)
theorem ZkU (e:Fil) (r:List Fil):Zn5 (e::r)=Zhz e++Zn5 r:=by simp [Zn5]
theorem Zh4 (es:List Fil):(Zn5 es).length=Zgc (es.map Zhz):=by
 induction es with
 | nil=>rfl
 | cons e r ih=>rw [ZkU,List.length_append,ih];simp [Zgc]
theorem Zmw (rest:Str) (hr:ZhW rest=none):∀(es:List Fil) (K:Nat),es.length≤K→(∀e∈es,Zcj e=true)→Zby K (Zn5 es++rest)=(es,es.map Zhz,rest)
 | [],K,hK,h=>by
  rw [show Zn5 []++rest=rest from rfl]
  cases K with
  | zero=>rfl
  | succ K=>rw [Zby,hr];rfl
 | e::r,K,hK,h=>by
  rw [List.length_cons] at hK
  obtain ⟨K,rfl⟩:∃K',K=K'+1:=⟨K-1,by omega⟩
  rw [ZkU,List.append_assoc,Zby,Zxr e (h e (List.mem_cons_self ..))]
  dsimp only
  rw [List.drop_left' rfl,List.take_left' rfl,Zmw rest hr r K (by omega) (fun x hx=>h x (List.mem_cons_of_mem _ hx))]
  rfl
theorem ZtR (ls:List Str):ZhW (ZeT ls)=none:=ZnD _ _ _ _ _
theorem ZbI {es:List Fil} (h:ZdR es=true):(∀e∈es,Zcj e=true)∧es.length≤6:=by
 unfold ZdR at h
 simp only [Bool.and_eq_true,List.all_eq_true,decide_eq_true_eq] at h
 exact ⟨h.1,h.2.1⟩
theorem Zdl (es:List Fil) (h:ZdR es=true):ZcH (Zeu es)=some es:=by
 obtain ⟨h1,h2⟩:=ZbI h
 unfold ZcH Zeu
 rw [Zmw _ (ZtR _) es 6 h2 h1]
 dsimp only
 rw [if_pos ⟨h,rfl⟩]
theorem ZdS {s:Str} {es:List Fil} (h:ZcH s=some es):ZdR es=true:=by
 unfold ZcH at h
 split at h
 ·rename_i hc
  obtain rfl:=Option.some.inj h
  exact hc.1
 ·cases h
theorem Ztq {e:Fil} (h:Zcj e=true):(Zhz e).length≤373∧30≤(Zhz e).length:=by
 obtain ⟨h1,h2,h3⟩:=ZbD h
 have:=Zdw h1
 have:=Zjw e.txt
 rw [Zhl];omega
theorem ZmL {e:Fil} (h:Zcj e=true):leN (Zhz e) 26 2=e.1.length:=by
 obtain ⟨h1,h2,h3⟩:=ZbD h
 have hnl:=Zdw h1
 have hp:=Zjw e.txt
 have hc:=ZgI e.txt
 obtain ⟨y,mo,d,hh,mi,sec,e1,e2,e3,e4,e5,e6,_⟩:=Zkr h2
 have hst:stF e=stN y mo d hh mi sec:=by
  unfold stF;rw [e1,e2,e3,e4,e5,e6];simp only [Int.toNat_natCast]
 rw [e1,e2,e3,e4,e5,e6] at h2
 obtain ⟨g1,g2⟩:=ZpD h2
 rw [←hst] at g2
 have hL:=Zhl e
 have hl30:(Zxs e).length=30:=Zdn _ _ _ _ _ _
 have ht30:Zxs e=(Zhz e).take 30:=by unfold Zhz;rw [List.take_left' hl30]
 exact ((Zp8 (Zhz e) (by omega) (ZeL e.txt).1 (stF e) (Zqn e.txt) (ZeL e.txt).2.length e.txt.length e.1.length (by omega) g2 hc (by omega) (by omega) (by omega)).1 ht30).2.2.2.2.2.2.2.2.1
theorem ZoO {e:Fil} (h:Zcj e=true):Zqz (Zhz e):=by
 have h1:=Ztq h
 refine ⟨?_,by omega⟩
 rw [ZmL h,Zhl];omega
theorem ZpB (es:List Fil) (h:∀e∈es,Zcj e=true):Zgc (es.map Zhz)≤373*es.length:=by
 unfold Zgc
 rw [List.map_map]
 exact ZgO _ 373 es fun e he=>(Ztq (h e he)).1
theorem Zo3 (es:List Fil) (h:∀e∈es,Zcj e=true):∀a,(ZcA (es.map Zhz) a).length=(es.map fun e=>46+e.1.length).sum:=by
 induction es with
 | nil=>intro a;rfl
 | cons e r ih=>
  intro a
  have he:=h e (List.mem_cons_self ..)
  simp only [List.map_cons,ZcA,List.length_append,List.sum_cons]
  rw [Zib _ _ (ZoO he),ZmL he,ih (fun x hx=>h x (List.mem_cons_of_mem _ hx))]
theorem ZsT (es:List Fil) (h:∀e∈es,Zcj e=true):(Zeu es).length=Zgc (es.map Zhz)+(es.map fun e=>46+e.1.length).sum+22:=by
 unfold Zeu ZeT
 rw [List.length_append,List.length_append,Zh4,Zjd,Zo3 es h];omega
theorem Zkh (es:List Fil) (h:ZdR es=true):(Zeu es).length≤3000:=by
 obtain ⟨h1,h2⟩:=ZbI h
 have a1:=ZpB es h1
 have a2:=ZgO (fun e:Fil=>46+e.1.length) 89 es fun e he=>by
  have:=Zdw (ZbD (h1 e he)).1
  omega
 rw [ZsT es h1];omega
end Ev
end
section
namespace Ev
open Go
theorem Zqh (e:Fil) (hn:e.1.length≤1048576):ZbE e.1 e.2.1 e.2.2.1 e.2.2.2.1 e.2.2.2.2.1 e.2.2.2.2.2.1 e.2.2.2.2.2.2.1 e.2.2.2.2.2.2.2=some (Zcj e):=Zk0 _ hn _ _ _ _ _ _ _
theorem Zlj (e:Fil) (hn:e.1.length≤1048576):ZaL e.1 e.2.1 e.2.2.1 e.2.2.2.1 e.2.2.2.2.1 e.2.2.2.2.2.1 e.2.2.2.2.2.2.1 e.2.2.2.2.2.2.2=some (Zcj e):=ZgC _ hn _ _ _ _ _ _ _
theorem Zsk {e:Fil} (h:Zcj e=true):∃(nm:Str) (y mo d hh mi sec:Nat) (t:Str),e=(nm,(y:Int),(mo:Int),(d:Int),(hh:Int),(mi:Int),(sec:Int),t)∧Zdd nm=true∧stM y mo d hh mi sec=true∧t.length≤300∧nm.length≤43∧1≤nm.length∧stF e=stN y mo d hh mi sec∧stN y mo d hh mi sec<4294967296:=by
 obtain ⟨h1,h2,h3⟩:=ZbD h
 have hnl:=Zdw h1
 obtain ⟨nm,y,mo,d,hh,mi,sec,t⟩:=e
 dsimp only at h1 h2 h3 hnl
 obtain ⟨y',mo',d',hh',mi',sec',rfl,rfl,rfl,rfl,rfl,rfl,_⟩:=Zkr h2
 exact ⟨nm,y',mo',d',hh',mi',sec',t,rfl,h1,h2,h3,hnl.2,hnl.1,by unfold stF;simp only [Int.toNat_natCast],(ZpD h2).2⟩
theorem Zto (e:Fil) (hn:e.1.length≤1048576):ZdF e.1 e.2.1 e.2.2.1 e.2.2.2.1 e.2.2.2.2.1 e.2.2.2.2.2.1 e.2.2.2.2.2.2.1 e.2.2.2.2.2.2.2=some (if Zcj e then Zhz e else []):=by
 unfold ZdF
 rw [Zqh e hn]
 simp only [Zaa]
 cases hf:Zcj e with
 | false=>rfl
 | true=>
  obtain ⟨nm,y,mo,d,hh,mi,sec,t,rfl,h1,h2,h3,h4,_,h5,h6⟩:=Zsk hf
  have hb:=Ziz t
  dsimp only
  simp only [Bool.not_true,cond_false]
  rw [if_pos trivial,Zni t h3]
  simp only [Zaa]
  unfold Zhz Zxs ZeL
  rw [h5]
  dsimp only [Fil.txt]
  by_cases hlt:(Zd4 t).length<t.length
  ·rw [decide_eq_true (by omega),cond_true,if_pos hlt]
   have:=Zm8 nm (by omega) h2 t (by omega) 8 (Zd4 t).length (by omega) (by omega)
   rw [show ((8:Nat):Int)=8 from rfl] at this
   rw [this]
   simp only [Zaa]
   rw [Zad (by rw [Zdn];omega),Zad (by rw [List.length_append,Zdn];omega),List.append_assoc]
  ·rw [decide_eq_false (by omega),cond_false,if_neg hlt]
   have:=Zm8 nm (by omega) h2 t (by omega) 0 t.length (by omega) (by omega)
   rw [show ((0:Nat):Int)=0 from rfl] at this
   rw [this]
   simp only [Zaa]
   rw [Zad (by rw [Zdn];omega),Zad (by rw [List.length_append,Zdn];omega),List.append_assoc]
theorem Zgs (es:List Fil) (i:Nat) (h:i<es.length):es.getD i ([],0,0,0,0,0,0,[])=es[i]:=Zan h
theorem ZqH (es:List Fil) (hn:es.length≤1000) (hx:∀e∈es,Zcj e=true):∀(j i:Nat) (out:List Str),i+j=es.length→out.length=i→
  ZbH.l0 (j+1) (es,(es.length:Int),(i:Int),out)=some (out++(es.drop i).map Zhz)
 | 0,i,out,h,ho=>by
  rw [ZbH.l0.succ];simp only [ZbH.l0.step]
  rw [ZaQ (by omega),List.drop_eq_nil_of_le (by omega)];simp
 | j+1,i,out,h,ho=>by
  have hi:i<es.length:=by omega
  have hf:=hx es[i] (List.getElem_mem hi)
  have hnl:=Zdw (ZbD hf).1
  rw [ZbH.l0.succ];simp only [ZbH.l0.step]
  rw [ZaP hi,cond_true,Zab _ Zav,Int.toNat_natCast,Zgs es i hi,Zto _ (by omega),if_pos hf]
  simp only [Zaa]
  rw [Zad (by simp;omega),Zaf (by omega) (by omega),show (i:Int)+1=((i+1:Nat):Int) by omega,
   ZqH es hn hx j (i+1) _ (by omega) (by simp [ho]),List.drop_eq_getElem_cons hi,List.map_cons,List.append_assoc]
  rfl
theorem ZxQ (xs:List Str):ZtD xs []=xs.flatten:=by
 unfold ZtD
 induction xs with
 | nil=>rfl
 | cons x r ih=>
  cases r with
  | nil=>simp [List.intercalate]
  | cons y r=>simp only [List.intercalate,List.intersperse,List.flatten_cons] at ih ⊢;rw [ih];rfl
theorem ZhJ (es:List Fil) (hn:es.length≤1048576) (hx:∀e∈es,e.1.length≤1048576):ZbH es=some (if ZdR es then Zeu es else []):=by
 unfold ZbH
 rw [ZtZ es hn hx]
 simp only [Zaa]
 cases hz:ZdR es with
 | false=>rfl
 | true=>
  obtain ⟨h1,h2⟩:=ZbI hz
  have h:=ZqH es (by omega) h1 es.length 0 [] (by omega) rfl
  rw [show ((0:Nat):Int)=0 from rfl,List.drop_zero,List.nil_append] at h
  have hs:=ZpB es h1
  have hle:=Zkh es hz
  have hfl:=Zh4 es
  have hcl:ZbL (es.map Zhz)=some (ZeT (es.map Zhz)):=Zpk _ (by rw [List.length_map];omega) (fun l hl=>by
   obtain ⟨e,he,rfl⟩:=List.mem_map.1 hl
   exact ZoO (h1 e he))
  simp only [Bool.not_true,cond_false]
  rw [if_pos trivial,ZaA,h]
  simp only [Zaa]
  unfold joinS
  rw [ZxQ,show (es.map Zhz).flatten=Zn5 es from rfl,Zab _ (by rw [Bool.and_eq_true];exact ⟨Ze5 (by rw [List.length_map];omega),Ze5 (by omega)⟩)]
  simp only [Zaa]
  rw [hcl]
  simp only [Zaa]
  rw [Zad (by unfold Zeu at hle;rw [List.length_append] at hle;omega)]
  rfl
theorem ZuA (t:Str) (ht:t.length≤300):ZhH t=some (((ZeL t).1:Int),(ZeL t).2):=by
 unfold ZhH ZeL
 rw [ZfX t ht]
 simp only [Zaa]
 by_cases hlt:(Zd4 t).length<t.length
 ·rw [decide_eq_true (by omega),if_pos hlt];rfl
 ·rw [decide_eq_false (by omega),if_neg hlt];rfl
def Zz3 (e:Fil):Str:=leB 20 2++leB 0 2++leB (ZeL e.txt).1 2++leB (stF e) 4++leB (Zqn e.txt) 4++leB (ZeL e.txt).2.length 4++leB e.txt.length 4++leB e.1.length 2++leB 0 2
theorem Zuq (e:Fil):Zxs e=leB 67324752 4++Zz3 e:=by
 unfold Zxs Zr6 Zz3;simp only [List.append_assoc]
theorem Zjc (e:Fil):(Zz3 e).length=26:=by
 unfold Zz3;simp only [List.length_append,ZaM]
set_option maxRecDepth 100000 in
theorem ZmS (e:Fil) (hf:Zcj e=true):ZcO e.1 e.2.1 e.2.2.1 e.2.2.2.1 e.2.2.2.2.1 e.2.2.2.2.2.1 e.2.2.2.2.2.2.1 e.2.2.2.2.2.2.2=some (Zz3 e):=by
 have L:∀n k,(leB n k).length=k:=ZaM
 obtain ⟨nm,y,mo,d,hh,mi,sec,t,rfl,h1,h2,h3,h4,_,h5,h6⟩:=Zsk hf
 have hp:=Zjw t
 have hc:=ZgI t
 have n1:=Zbh 20 2 (by omega) (by omega)
 have n2:=Zbh 0 2 (by omega) (by omega)
 have n3:=Zbh (ZeL t).1 2 (by omega) (by omega)
 have n4:=Zbh (stN y mo d hh mi sec) 4 (by omega) (by omega)
 have n5:=Zbh (Zqn t) 4 (by omega) (by omega)
 have n6:=Zbh (ZeL t).2.length 4 (by omega) (by omega)
 have n7:=Zbh t.length 4 (by omega) (by omega)
 have n8:=Zbh nm.length 2 (by omega) (by omega)
 rw [show ((20:Nat):Int)=20 from rfl,show ((2:Nat):Int)=2 from rfl] at n1
 rw [show ((0:Nat):Int)=0 from rfl,show ((2:Nat):Int)=2 from rfl] at n2
 rw [show ((2:Nat):Int)=2 from rfl] at n3 n8
 rw [show ((4:Nat):Int)=4 from rfl] at n4 n5 n6 n7
 unfold ZcO
 dsimp only
 rw [ZuA t h3]
 simp only [Zaa]
 rw [n1,n2]
 simp only [Zaa]
 rw [Zad (by simp only [L];omega),n3]
 simp only [Zaa]
 rw [Zad (by simp only [List.length_append,L];omega),Zzj h2]
 simp only [Zaa]
 rw [n4]
 simp only [Zaa]
 rw [Zad (by simp only [List.length_append,L];omega),Zks t (by omega)]
 simp only [Zaa]
 rw [n5]
 simp only [Zaa]
 rw [Zad (by simp only [List.length_append,L];omega),n6]
 simp only [Zaa]
 rw [Zad (by simp only [List.length_append,L];omega),n7]
 simp only [Zaa]
 rw [Zad (by simp only [List.length_append,L];omega),n8]
 simp only [Zaa]
 rw [Zad (by simp only [List.length_append,L];omega),Zad (by simp only [List.length_append,L];omega)]
 unfold Zz3
 rw [h5]
theorem ZvS (e:Fil) (hf:Zcj e=true):ZeD e.1 e.2.1 e.2.2.1 e.2.2.2.1 e.2.2.2.2.1 e.2.2.2.2.2.1 e.2.2.2.2.2.2.1 e.2.2.2.2.2.2.2=some (Zhz e):=by
 have hfl:=Zjc e
 have hff:=ZmS e hf
 obtain ⟨g1,g2,g3⟩:=ZbD hf
 have hnl:=Zdw g1
 have hp:(ZeL e.2.2.2.2.2.2.2).2.length≤e.2.2.2.2.2.2.2.length∧(ZeL e.2.2.2.2.2.2.2).1≤8:=Zjw e.txt
 have g3':e.2.2.2.2.2.2.2.length≤300:=g3
 have n1:=Zbh 67324752 4 (by omega) (by omega)
 rw [show ((67324752:Nat):Int)=67324752 from rfl,show ((4:Nat):Int)=4 from rfl] at n1
 unfold ZeD
 rw [ZuA e.2.2.2.2.2.2.2 g3]
 simp only [Zaa]
 rw [n1,hff]
 simp only [Zaa]
 rw [Zad (by rw [ZaM];omega),Zad (by rw [List.length_append,ZaM];omega),Zad (by rw [List.length_append,List.length_append,ZaM];omega)]
 unfold Zhz
 rw [Zuq]
 simp only [List.append_assoc]
theorem Zu6 (e:Fil) (hf:Zcj e=true) (a:Nat):Zjg (Zhz e) a=leB 33639248 4++leB 20 2++Zz3 e++leB 0 10++leB a 4++e.1:=by
 have hl30:(Zxs e).length=30:=Zdn _ _ _ _ _ _
 have h1:((Zhz e).take 30).drop 4=Zz3 e:=by
  unfold Zhz
  rw [List.take_left' hl30,Zuq,List.drop_left' (ZaM _ _)]
 have h2:((Zhz e).take (30+e.1.length)).drop 30=e.1:=by
  unfold Zhz
  rw [←List.append_assoc,List.take_left' (by rw [List.length_append,hl30]),List.drop_left' hl30]
 unfold Zjg
 rw [ZmL hf,h1,h2]
theorem ZrL (e:Fil) (hf:Zcj e=true) (a:Nat) (ha:a≤100000000):ZcY e.1 e.2.1 e.2.2.1 e.2.2.2.1 e.2.2.2.2.1 e.2.2.2.2.2.1 e.2.2.2.2.2.2.1 e.2.2.2.2.2.2.2 (a:Int)=some (Zjg (Zhz e) a):=by
 have L:∀n k,(leB n k).length=k:=ZaM
 have hfl:=Zjc e
 have hff:=ZmS e hf
 obtain ⟨g1,g2,g3⟩:=ZbD hf
 have hnl:=Zdw g1
 have n1:=Zbh 33639248 4 (by omega) (by omega)
 have n2:=Zbh 20 2 (by omega) (by omega)
 have n3:=Zbh 0 2 (by omega) (by omega)
 have n4:=Zbh 0 4 (by omega) (by omega)
 have n5:=Zbh a 4 (by omega) (by omega)
 rw [show ((33639248:Nat):Int)=33639248 from rfl,show ((4:Nat):Int)=4 from rfl] at n1
 rw [show ((20:Nat):Int)=20 from rfl,show ((2:Nat):Int)=2 from rfl] at n2
 rw [show ((0:Nat):Int)=0 from rfl,show ((2:Nat):Int)=2 from rfl] at n3
 rw [show ((0:Nat):Int)=0 from rfl,show ((4:Nat):Int)=4 from rfl] at n4
 rw [show ((4:Nat):Int)=4 from rfl] at n5
 unfold ZcY
 rw [n1,n2,hff,n3,n4,n5]
 simp only [Zaa]
 rw [Zad (by simp only [L];omega),Zad (by simp only [List.length_append,L];omega),Zad (by simp only [List.length_append,L];omega),Zad (by simp only [List.length_append,L];omega),Zad (by simp only [List.length_append,L];omega),
  Zad (by simp only [List.length_append,L];omega),Zad (by simp only [List.length_append,L];omega),Zad (by simp only [List.length_append,L];omega),Zu6 e hf a]
 have z:leB 0 10=leB 0 2++(leB 0 2++(leB 0 2++leB 0 4)):=by decide
 rw [z]
 simp only [List.append_assoc]
theorem ZzI (e:Fil) (hf:Zcj e=true) (a:Nat):(Zjg (Zhz e) a).length≤89:=by
 have hnl:=Zdw (ZbD hf).1
 rw [Zu6 e hf]
 simp only [List.length_append,ZaM,Zjc];omega
theorem Zuv (es:List Fil) (hn:es.length≤1000) (hx:∀e∈es,Zcj e=true):∀(j i:Nat) (out heads:Str),i+j=es.length→out.length≤373*i→heads.length≤89*i→
  ZcS.l0 (j+1) (es,out,heads,(i:Int))=some (es,out++Zn5 (es.drop i),heads++ZcA ((es.drop i).map Zhz) out.length)
 | 0,i,out,heads,h,ho,hh=>by
  rw [ZcS.l0.succ];simp only [ZcS.l0.step]
  rw [ZaQ (by omega),List.drop_eq_nil_of_le (by omega)];simp [Zn5,ZcA]
 | j+1,i,out,heads,h,ho,hh=>by
  have hi:i<es.length:=by omega
  have hf:=hx es[i] (List.getElem_mem hi)
  have hc:=ZzI es[i] hf out.length
  have hl:=Ztq hf
  rw [ZcS.l0.succ];simp only [ZcS.l0.step]
  rw [ZaP hi,cond_true,Zab _ Zav,Int.toNat_natCast,Zgs es i hi,ZrL _ hf _ (by omega)]
  simp only [Zaa]
  rw [Zad (by omega),Zab _ Zav,ZvS _ hf]
  simp only [Zaa]
  rw [Zad (by omega),Zaf (by omega) (by omega),show (i:Int)+1=((i+1:Nat):Int) by omega,
   Zuv es hn hx j (i+1) _ _ (by omega) (by rw [List.length_append];omega) (by rw [List.length_append];omega),List.drop_eq_getElem_cons hi,List.map_cons,ZkU]
  simp only [ZcA,List.append_assoc,List.length_append]
theorem ZjD (es:List Fil) (hn:es.length≤1000) (hx:∀e∈es,Zcj e=true):ZcS es=some (Zeu es):=by
 have h:=Zuv es hn hx es.length 0 [] [] (by omega) (by simp) (by simp)
 rw [show ((0:Nat):Int)=0 from rfl,List.drop_zero,List.nil_append,List.nil_append,List.length_nil] at h
 have h1:=ZpB es hx
 have h2:=Zh4 es
 have h3:=Zo3 es hx 0
 have h4:=ZgO (fun e:Fil=>46+e.1.length) 89 es fun e he=>by
  have:=Zdw (ZbD (hx e he)).1
  omega
 unfold ZcS
 rw [ZaA,h]
 simp only [Zaa]
 rw [Zad (by omega),Zux es.length _ _ (by omega) (by omega) (by omega)]
 simp only [Zaa]
 rw [Zad (by rw [List.length_append,Zjd];omega)]
 unfold Zeu ZeT
 rw [List.length_map,h2,List.append_assoc]
end Ev
end
section
namespace Ev
open Go
theorem ZuP (a b:Str):hit a b=hit b a:=by
 unfold hit
 rw [Bool.eq_iff_iff]
 simp only [Bool.or_eq_true,beq_iff_eq]
 constructor
 ·rintro (h | h | h)
  ·exact .inl h.symm
  ·exact .inr (.inr h)
  ·exact .inr (.inl h)
 ·rintro (h | h | h)
  ·exact .inl h.symm
  ·exact .inr (.inr h)
  ·exact .inr (.inl h)
theorem Zo7 (a b:List Str) (i:Nat) (h:i<a.length):(a++b).getD i []=a.getD i []:=by
 simp only [List.getD_eq_getElem?_getD,List.getElem?_append_left h]
theorem Zv5 (a:List Str) (n:Str):(a++[n]).getD a.length []=n:=by
 simp [List.getD_eq_getElem?_getD]
theorem ZnO (ns:List Str) (n:Str):ZfC (ns++[n])=(ZfC ns&&ns.all fun b=>!hit n b):=by
 unfold ZfC
 rw [List.length_append,List.length_cons,List.length_nil,Nat.zero_add,List.range_succ,List.all_append,List.all_cons,List.all_nil,Bool.and_true]
 congr 1
 ·apply Bool.eq_iff_iff.2
  rw [List.all_eq_true,List.all_eq_true]
  constructor<;>intro h i hi
  ·have hlt:=List.mem_range.1 hi
   have:=h i hi
   rwa [List.take_append_of_le_length (by omega),Zo7 _ _ _ hlt] at this
  ·have hlt:=List.mem_range.1 hi
   have:=h i hi
   rwa [List.take_append_of_le_length (by omega),Zo7 _ _ _ hlt]
 ·rw [List.take_left' rfl,Zv5]
theorem ZyM {α:Type} {P:List α→Prop} (h0:P []) (h1:∀l x,P l→P (l++[x])) (l:List α):P l:=by
 have:∀r:List α,P r.reverse:=fun r=>by
  induction r with
  | nil=>exact h0
  | cons x r ih=>rw [List.reverse_cons];exact h1 _ _ ih
 have h:=this l.reverse
 rwa [List.reverse_reverse] at h
theorem ZsH (ns:List Str):ZfC ns=true↔ns.Pairwise fun a b=>hit b a=false:=by
 refine ZyM (P:=fun ns:List Str=>ZfC ns=true↔ns.Pairwise fun a b=>hit b a=false) (by simp [ZfC]) (fun ns n ih=>?_) ns
 rw [ZnO,Bool.and_eq_true,ih,List.all_eq_true,List.pairwise_append]
 constructor
 ·rintro ⟨h1,h2⟩
  refine ⟨h1,by simp,fun a ha b hb=>?_⟩
  have:b=n:=by simpa using hb
  subst this
  have:=h2 a ha
  rwa [Bool.not_eq_true'] at this
 ·rintro ⟨h1,_,h2⟩
  exact ⟨h1,fun a ha=>by rw [Bool.not_eq_true'];exact h2 a ha n (by simp)⟩
def Zwr (ns:List Str):Prop:=ns.Pairwise fun a b=>hit b a=false
theorem Ze6 (es:List Fil):ZdR es=true↔(∀e∈es,Zcj e=true)∧es.length≤6∧Zwr (es.map Prod.fst):=by
 unfold ZdR
 simp only [Bool.and_eq_true,List.all_eq_true,decide_eq_true_eq,ZsH]
 rfl
theorem ZiB (ns:List Str):ZfC ns=true↔Zwr ns:=ZsH ns
end Ev
end
section
namespace Ev
open Go
theorem ZfY {α ρ:Type} (a:α) (k:α→Option ρ) (y:Option ρ):Zff (some a) k y=k a:=Eq.trans rfl rfl
def atM (es:List Fil) (n:Str):Option Nat:=es.findIdx? fun e=>e.1==n
def atZ:Option Nat→Int
 | none=>-1
 | some i=>(i:Int)
theorem ZjM (es:List Fil) (n:Str) (hn:es.length≤1048576):∀(j i:Nat),i+j=es.length→
  Za7.l0 (j+1) (es,(es.length:Int),(i:Int),n)=some (match atM (es.drop i) n with | none=>.inl n | some k=>.inr (((i+k:Nat):Int),n))
 | 0,i,h=>by
  rw [Za7.l0.succ];simp only [Za7.l0.step]
  rw [ZaQ (by omega),List.drop_eq_nil_of_le (by omega)];rfl
 | j+1,i,h=>by
  have hi:i<es.length:=by omega
  rw [Za7.l0.succ];simp only [Za7.l0.step]
  rw [ZaP hi,cond_true,Zab _ Zav,Int.toNat_natCast,Zgs es i hi]
  simp only [ZkW,Zaa]
  rw [Zaf (by omega) (by omega),show (i:Int)+1=((i+1:Nat):Int) by omega,ZjM es n hn j (i+1) (by omega)]
  unfold atM
  rw [List.drop_eq_getElem_cons hi,List.findIdx?_cons]
  cases es[i].1==n with
  | true=>simp
  | false=>
   simp only [cond_false,Bool.false_eq_true,if_false]
   cases (es.drop (i+1)).findIdx? (fun e=>e.1==n) with
   | none=>rfl
   | some k=>simp only [Option.map_some];congr 3;omega
theorem ZtL (es:List Fil) (n:Str) (hn:es.length≤1048576):find es n=some (atZ (atM es n)):=by
 have h:=ZjM es n hn es.length 0 (by omega)
 rw [show ((0:Nat):Int)=0 from rfl,List.drop_zero] at h
 unfold find Za7
 rw [ZaA,h]
 cases atM es n with
 | none=>rfl
 | some k=>simp [atZ]
theorem Zuy (es:List Fil) (n:Str) (hn:es.length≤1048576):∀(j i:Nat),i+j=es.length→
  Zfz.l0 (j+1) (es,n,(i:Int))=some (match atM (es.drop i) n with | none=>.inl () | some k=>.inr ((i+k:Nat):Int))
 | 0,i,h=>by
  rw [Zfz.l0.succ];simp only [Zfz.l0.step]
  rw [ZaQ (by omega),List.drop_eq_nil_of_le (by omega)];rfl
 | j+1,i,h=>by
  have hi:i<es.length:=by omega
  rw [Zfz.l0.succ];simp only [Zfz.l0.step]
  rw [ZaP hi,cond_true,Zab _ Zav,Int.toNat_natCast,Zgs es i hi,Zaf (by omega) (by omega),show (i:Int)+1=((i+1:Nat):Int) by omega,Zuy es n hn j (i+1) (by omega)]
  unfold atM
  rw [List.drop_eq_getElem_cons hi,List.findIdx?_cons]
  cases es[i].1==n with
  | true=>simp
  | false=>
   simp only [cond_false,Bool.false_eq_true,if_false]
   cases (es.drop (i+1)).findIdx? (fun e=>e.1==n) with
   | none=>rfl
   | some k=>simp only [Option.map_some];congr 3;omega
theorem Zi4 (es:List Fil) (n:Str) (hn:es.length≤1048576):Zfz es n=some (atZ (atM es n)):=by
 have h:=Zuy es n hn es.length 0 (by omega)
 rw [show ((0:Nat):Int)=0 from rfl,List.drop_zero] at h
 unfold Zfz
 rw [ZaA,h]
 cases atM es n with
 | none=>rfl
 | some k=>simp [atZ]
theorem ZdX {es:List Fil} {n:Str} {i:Nat} (h:atM es n=some i):∃hi:i<es.length,es[i].1=n:=by
 obtain ⟨hi,h1,_⟩:=List.findIdx?_eq_some_iff_getElem.1 h
 exact ⟨hi,by simpa using h1⟩
theorem ZzM {es:List Fil} {n:Str} (h:atM es n=none):∀e∈es,e.1≠n:=fun e he=>by
 have:=List.findIdx?_eq_none_iff.1 h e he
 simpa using this
def Zft (es:List Fil) (n:Str):Bool:=es.any fun e=>hit n e.1
theorem ZxU (a n:Str):hit n a=(a==n||(Zgb a n||Zgb n a)):=by
 unfold hit
 rw [Zju,Zju]
 congr 1
 rw [Bool.eq_iff_iff,beq_iff_eq,beq_iff_eq]
 exact eq_comm
theorem ZoR (es:List Fil) (n:Str) (hn:es.length≤1048576):∀(j i:Nat),i+j=es.length→
  ZbQ.l0 (j+1) (es,n,(i:Int))=some (if Zft (es.drop i) n then .inr true else .inl ())
 | 0,i,h=>by
  rw [ZbQ.l0.succ];simp only [ZbQ.l0.step]
  rw [ZaQ (by omega),List.drop_eq_nil_of_le (by omega)];rfl
 | j+1,i,h=>by
  have hi:i<es.length:=by omega
  rw [ZbQ.l0.succ];simp only [ZbQ.l0.step]
  rw [ZaP hi,cond_true,Zab _ Zav,Zab _ Zav,Zab _ Zav,Int.toNat_natCast,Zgs es i hi,ZkO,ZkO,Zaf (by omega) (by omega),show (i:Int)+1=((i+1:Nat):Int) by omega,ZoR es n hn j (i+1) (by omega)]
  simp only [Zaa]
  have hc:Zft (es.drop i) n=(hit n es[i].1||Zft (es.drop (i+1)) n):=by unfold Zft;rw [List.drop_eq_getElem_cons hi,List.any_cons]
  rw [hc,ZxU]
  cases es[i].1==n<;>cases Zgb es[i].1 n<;>cases Zgb n es[i].1<;>cases Zft (es.drop (i+1)) n<;>rfl
theorem ZoS (es:List Fil) (n:Str) (hn:es.length≤1048576):ZbQ es n=some (Zft es n):=by
 have h:=ZoR es n hn es.length 0 (by omega)
 rw [show ((0:Nat):Int)=0 from rfl,List.drop_zero] at h
 unfold ZbQ
 rw [ZaA,h]
 cases Zft es n<;>rfl
theorem ZsG (es:List Fil) (n:Str) (h:ZfC (es.map Prod.fst)=true):ZfC (es.map Prod.fst++[n])= !Zft es n:=by
 rw [ZnO,h,Bool.true_and]
 unfold Zft
 rw [List.all_map]
 induction es with
 | nil=>rfl
 | cons e r ih=>
  have hr:ZfC (r.map Prod.fst)=true:=by
   rw [ZiB] at h ⊢
   exact (List.pairwise_cons.1 h).2
  rw [List.all_cons,List.any_cons,ih hr,Bool.not_or];rfl
def Zmc (es:List Fil) (e:Fil):Int:=if Zcj e=false then 1 else if Zft es e.1=true then 3 else if 6≤es.length then 4 else 0
theorem Zoc {es:List Fil} (h:ZdR es=true):ZfC (es.map Prod.fst)=true:=by
 unfold ZdR at h
 simp only [Bool.and_eq_true] at h
 exact h.2.2
theorem Zob {es:List Fil} (h:ZdR es=true):∀e∈es,e.1.length≤43:=fun e he=>(Zdw (ZbD ((ZbI h).1 e he)).1).2
theorem ZtU (es:List Fil) (h:ZdR es=true) (e:Fil) (he:e.1.length≤1048576):ZdI e.1 e.2.1 e.2.2.1 e.2.2.2.1 e.2.2.2.2.1 e.2.2.2.2.2.1 e.2.2.2.2.2.2.1 e.2.2.2.2.2.2.2 es=some (Zmc es e,if Zmc es e=0 then es++[e] else []):=by
 obtain ⟨h1,h2⟩:=ZbI h
 have hnm:=Zob h
 unfold ZdI Zmc
 rw [Zqh e he]
 simp only [Zaa]
 cases hf:Zcj e with
 | false=>rfl
 | true=>
  simp only [Bool.not_true,cond_false]
  rw [ZkG es (by omega)]
  simp only [Zaa]
  rw [Zad (by simp;omega),Zqu _ (by simp;omega) (fun b hb=>by
   rcases List.mem_append.1 hb with hb | hb
   ·obtain ⟨x,hx,rfl⟩:=List.mem_map.1 hb
    have:=hnm x hx;omega
   ·have:b=e.1:=by simpa using hb
    subst this;exact he)]
  simp only [Zaa]
  have ha:=ZsG es e.1 (Zoc h)
  unfold ZfC at ha
  rw [ha,Bool.not_not]
  cases Zft es e.1 with
  | true=>rfl
  | false=>
   rw [cond_false]
   by_cases h6:es.length=6
   ·rw [show ((es.length:Int)==6)=true by simp [h6],h6];rfl
   ·rw [show ((es.length:Int)==6)=false by simp;omega,cond_false,Zad (by simp;omega)]
    have:¬6≤es.length:=by omega
    simp [this]
theorem Zzi (es:List Fil) (hn:es.length≤1000) (e:Fil) (he:e.1.length≤1048576):ZjC e.1 e.2.1 e.2.2.1 e.2.2.2.1 e.2.2.2.2.1 e.2.2.2.2.2.1 e.2.2.2.2.2.2.1 e.2.2.2.2.2.2.2 es=some (Zmc es e,if Zmc es e=0 then es++[e] else es):=by
 unfold ZjC Zmc
 rw [Zlj e he]
 simp only [Zaa]
 cases hf:Zcj e with
 | false=>rfl
 | true=>
  simp only [Bool.not_true,cond_false]
  rw [ZoS es e.1 (by omega)]
  simp only [Zaa]
  cases Zft es e.1 with
  | true=>rfl
  | false=>
   rw [cond_false]
   by_cases h6:6≤es.length
   ·rw [decide_eq_true (by omega),cond_true];simp [h6]
   ·rw [decide_eq_false (by omega),cond_false,Zad (by simp;omega),Zad (by simp;omega),List.nil_append]
    simp [h6]
theorem Zj9 {es:List Fil} (h:ZdR es=true) {e:Fil} (hc:Zmc es e=0):ZdR (es++[e])=true∧Zcj e=true∧Zft es e.1=false∧es.length<6:=by
 unfold Zmc at hc
 cases hf:Zcj e with
 | false=>rw [hf] at hc;simp at hc
 | true=>
  rw [hf] at hc
  cases hcl:Zft es e.1 with
  | true=>rw [hcl] at hc;simp at hc
  | false=>
   rw [hcl] at hc
   have h6:es.length<6:=by
    rcases Nat.lt_or_ge es.length 6 with q | q
    ·exact q
    ·simp [q] at hc
   refine ⟨?_,rfl,rfl,h6⟩
   obtain ⟨g1,g2,g3⟩:=(Ze6 es).1 h
   rw [Ze6]
   refine ⟨fun x hx=>?_,by simp;omega,?_⟩
   ·rcases List.mem_append.1 hx with hx | hx
    ·exact g1 x hx
    ·have:x=e:=by simpa using hx
     subst this;exact hf
   ·rw [List.map_append,List.map_cons,List.map_nil]
    exact (ZiB _).1 (by rw [ZsG es e.1 (Zoc h),hcl];rfl)
def Zki (s:Str) (e:Fil):Str×Int:=match ZcH s with
 | none=>([],1)
 | some es=>if Zmc es e=0 then (Zeu (es++[e]),0) else (s,Zmc es e)
theorem Zhg {es:List Fil} (h:ZdR es=true):∀e∈es,e.1.length≤1048576:=fun e he=>by have:=Zob h e he;omega
theorem ZwD (s:Str) (hs:s.length≤1048576) (e:Fil) (he:e.1.length≤1048576):Zgg s e.1 e.2.1 e.2.2.1 e.2.2.2.1 e.2.2.2.2.1 e.2.2.2.2.2.1 e.2.2.2.2.2.2.1 e.2.2.2.2.2.2.2=some (Zki s e):=by
 unfold Zgg ZcU Zki
 rw [ZgL s hs]
 simp only [Zaa]
 cases hz:ZcH s with
 | none=>rfl
 | some es=>
  have hok:=ZdS hz
  have h6:=(ZbI hok).2
  simp only [ZqG,Bool.not_true,cond_false]
  unfold ZeU
  rw [ZtU es hok e he]
  simp only [Zaa]
  by_cases hc:Zmc es e=0
  ·have hzz:=(Zj9 hok hc).1
   rw [if_pos hc,if_pos hc,show (Zmc es e != 0)=false by simp [hc],cond_false,ZhJ _ (by simp;omega) (Zhg hzz),if_pos hzz]
   simp only [Zaa,ZfY]
  ·rw [if_neg hc,if_neg hc,show (Zmc es e != 0)=true by simp [hc],cond_true,ZfY]
theorem ZpG (s:Str) (hs:s.length≤1048576) (e:Fil) (he:e.1.length≤1048576):Zct s e.1 e.2.1 e.2.2.1 e.2.2.2.1 e.2.2.2.2.1 e.2.2.2.2.2.1 e.2.2.2.2.2.2.1 e.2.2.2.2.2.2.2=some (Zki s e):=by
 unfold Zct Zki
 rw [ZdV s hs]
 simp only [Zaa]
 cases hz:ZcH s with
 | none=>rfl
 | some es=>
  have hok:=ZdS hz
  have h6:=(ZbI hok).2
  simp only [ZqG,Bool.not_true,cond_false]
  rw [Zzi es (by omega) e he]
  simp only [Zaa]
  by_cases hc:Zmc es e=0
  ·have hzz:=(Zj9 hok hc).1
   rw [if_pos hc,if_pos hc,show (Zmc es e != 0)=false by simp [hc],cond_false,ZjD _ (by simp;omega) (ZbI hzz).1]
   simp only [Zaa]
  ·rw [if_neg hc,if_neg hc,show (Zmc es e != 0)=true by simp [hc],cond_true]
def Zf8 (es:List Fil) (i:Nat):List Fil:=es.take i++es.drop (i+1)
theorem Zg1 (es:List Fil) (i:Nat):(Zf8 es i).Sublist es:=by
 unfold Zf8
 rw [←List.eraseIdx_eq_take_drop_succ]
 exact List.eraseIdx_sublist ..
theorem Zpq {es fs:List Fil} (h:ZdR es=true) (hs:fs.Sublist es):ZdR fs=true:=by
 obtain ⟨g1,g2,g3⟩:=(Ze6 es).1 h
 rw [Ze6]
 exact ⟨fun e he=>g1 e (hs.subset he),Nat.le_trans hs.length_le g2,g3.sublist (hs.map _)⟩
def Zij (s n:Str):Str×Int:=match ZcH s with
 | none=>([],1)
 | some es=>match atM es n with
  | none=>(s,2)
  | some i=>(Zeu (Zf8 es i),0)
theorem Zvl (s n:Str) (hs:s.length≤1048576):Zex s n=some (Zij s n):=by
 unfold Zex Zcd Zij
 rw [ZgL s hs]
 simp only [Zaa]
 cases hz:ZcH s with
 | none=>rfl
 | some es=>
  have hok:=ZdS hz
  have h6:=(ZbI hok).2
  simp only [ZqG,Bool.not_true,cond_false]
  unfold ZdT
  rw [ZtL es n (by omega)]
  simp only [Zaa]
  cases ha:atM es n with
  | none=>rfl
  | some i=>
   obtain ⟨hi,_⟩:=ZdX ha
   have hzz:=Zpq hok (Zg1 es i)
   rw [show atZ (some i)=(i:Int) from rfl]
   rw [decide_eq_false (by omega),cond_false,Zaf (by omega) (by omega)]
   unfold Zh8
   rw [Zab _ (by simp;omega)]
   simp only [Zaa]
   rw [show ((i:Int)+1).toNat=i+1 by omega,Int.toNat_natCast]
   show Zff (((bif ((0:Int) != 0) then _ else _))) _ _=_
   rw [show ((0:Int) != 0)=false from rfl,cond_false]
   have hle:(Zf8 es i).length≤6:=(ZbI hzz).2
   have:=ZhJ (Zf8 es i) (by omega) (Zhg hzz)
   rw [if_pos hzz] at this
   unfold Zf8 at this ⊢
   rw [this]
   simp only [Zaa,ZfY]
theorem ZlC (es:List Fil) (hn:es.length≤1000) (i:Nat) (hi:i<es.length):Zcg es (i:Int)=some (Zf8 es i):=by
 unfold Zcg Zf8
 rw [Zaf (by omega) (by omega),show ((i:Int)+1)=((i+1:Nat):Int) by omega,Int.toNat_natCast,Int.toNat_natCast]
 rw [Zab _ (by simp;omega),Zad (by simp;omega),Zab _ (by simp;omega),Zad (by simp;omega),List.nil_append]
theorem ZnV (s n:Str) (hs:s.length≤1048576):Zb0 s n=some (Zij s n):=by
 unfold Zb0 Zij
 rw [ZdV s hs]
 simp only [Zaa]
 cases hz:ZcH s with
 | none=>
  simp only [ZqG]
  rw [Zi4 [] n (by simp)]
  rfl
 | some es=>
  have hok:=ZdS hz
  have h6:=(ZbI hok).2
  simp only [ZqG,Bool.not_true,cond_false]
  rw [Zi4 es n (by omega)]
  simp only [Zaa]
  cases ha:atM es n with
  | none=>rfl
  | some i=>
   obtain ⟨hi,_⟩:=ZdX ha
   have hzz:=Zpq hok (Zg1 es i)
   rw [show atZ (some i)=(i:Int) from rfl]
   rw [decide_eq_false (by omega),cond_false,ZlC es (by omega) i hi]
   simp only [Zaa]
   have hle:(Zf8 es i).length≤6:=(ZbI hzz).2
   rw [ZjD _ (by omega) (ZbI hzz).1]
   simp only [Zaa]
end Ev
end
section
namespace Ev
open Go
def FilSm (e:Fil):Prop:=e.1∈nameL∧e.txt.length≤301
theorem FilSm.len {e:Fil} (h:FilSm e):e.1.length≤11:=Zxd _ h.1
def ZlN (xs:List Int):Prop:=∀x∈xs,0≤x∧x≤255
theorem Zzn (xs:List Int) (h:ZlN xs) (hl:xs.length≤1048576):Ret (Zgq xs) fun r=>r.2=0∧ZAa r.1 r.2:=by
 unfold Zgq
 by_cases c:xs.length>2000
 ·rw [decide_eq_true (by omega),cond_true,Zab _ (by simp;omega)]
  refine .pure ⟨rfl,?_,fun x hx=>h x (List.mem_of_mem_take hx),by omega⟩
  rw [List.length_take];exact Nat.min_le_left ..
 ·rw [decide_eq_false (by omega),cond_false]
  exact .pure ⟨rfl,by dsimp only;omega,h,by omega⟩
end Ev
end
section
namespace Ev
open Go
def Zih (s:Str) (e:Fil):Str×Int:=match ZcH s with
 | none=>([],1)
 | some es=>if Zcj e=false then (s,1) else match atM es e.1 with
  | none=>(s,2)
  | some i=>(Zeu (es.set i e),0)
theorem Zpr {es:List Fil} (h:ZdR es=true) {e:Fil} (hf:Zcj e=true) {i:Nat} (hi:i<es.length) (hn:es[i].1=e.1):ZdR (es.set i e)=true:=by
 obtain ⟨g1,g2,g3⟩:=(Ze6 es).1 h
 rw [Ze6]
 refine ⟨fun x hx=>?_,by rw [List.length_set];exact g2,?_⟩
 ·rcases List.mem_or_eq_of_mem_set hx with hx | rfl
  ·exact g1 x hx
  ·exact hf
 ·have:(es.set i e).map Prod.fst=es.map Prod.fst:=by
   apply List.ext_getElem (by simp)
   intro k h1 h2
   rw [List.getElem_map,List.getElem_map,List.getElem_set]
   split
   ·rename_i hk;subst hk;exact hn.symm
   ·rfl
  rw [this];exact g3
theorem Zvh (s:Str) (hs:s.length≤1048576) (e:Fil) (he:e.1.length≤1048576):Zev s e.1 e.2.1 e.2.2.1 e.2.2.2.1 e.2.2.2.2.1 e.2.2.2.2.2.1 e.2.2.2.2.2.2.1 e.2.2.2.2.2.2.2=some (Zih s e):=by
 unfold Zev Zcb Zih
 rw [ZgL s hs]
 simp only [Zaa]
 cases hz:ZcH s with
 | none=>rfl
 | some es=>
  have hok:=ZdS hz
  have h6:=(ZbI hok).2
  simp only [ZqG,Bool.not_true,cond_false]
  unfold ZdP
  rw [ZtL es e.1 (by omega)]
  simp only [Zaa]
  rw [Zqh e he]
  simp only [Zaa]
  cases hf:Zcj e with
  | false=>rfl
  | true=>
   simp only [Bool.not_true,cond_false]
   rw [if_neg (by simp)]
   cases ha:atM es e.1 with
   | none=>rfl
   | some i=>
    obtain ⟨hi,hn⟩:=ZdX ha
    have hzz:=Zpr hok hf hi hn
    rw [show atZ (some i)=(i:Int) from rfl]
    rw [decide_eq_false (by omega),cond_false,Zab _ (by simp;omega),Int.toNat_natCast]
    simp only [Zaa]
    rw [show ((0:Int) != 0)=false from rfl,cond_false]
    have:=ZhJ (es.set i e) (by simp;omega) (Zhg hzz)
    rw [if_pos hzz] at this
    show Zff ((ZbH (es.set i e)).bind _) _ _=_
    rw [this]
    simp only [Zaa,ZfY]
theorem ZnT (s:Str) (hs:s.length≤1048576) (e:Fil) (he:e.1.length≤1048576):ZbX s e.1 e.2.1 e.2.2.1 e.2.2.2.1 e.2.2.2.2.1 e.2.2.2.2.2.1 e.2.2.2.2.2.2.1 e.2.2.2.2.2.2.2=some (Zih s e):=by
 unfold ZbX Zih
 rw [ZdV s hs]
 simp only [Zaa]
 cases hz:ZcH s with
 | none=>
  simp only [ZqG]
  rw [Zi4 [] e.1 (by simp)]
  rfl
 | some es=>
  have hok:=ZdS hz
  have h6:=(ZbI hok).2
  simp only [ZqG,Bool.not_true,cond_false]
  rw [Zi4 es e.1 (by omega)]
  simp only [Zaa]
  rw [Zlj e he]
  simp only [Zaa]
  cases hf:Zcj e with
  | false=>rfl
  | true=>
   simp only [Bool.not_true,cond_false]
   rw [if_neg (by simp)]
   cases ha:atM es e.1 with
   | none=>rfl
   | some i=>
    obtain ⟨hi,hn⟩:=ZdX ha
    have hzz:=Zpr hok hf hi hn
    rw [show atZ (some i)=(i:Int) from rfl]
    rw [decide_eq_false (by omega),cond_false,Zab _ (by simp;omega),Int.toNat_natCast]
    have:=ZjD (es.set i e) (by simp;omega) (ZbI hzz).1
    show (ZcS (es.set i e)).bind _=_
    rw [this]
    simp only [Zaa]
def ZpQ (es:List Fil) (i:Nat) (to_:Str):List Fil:=es.set i (to_,(es.getD i Fil.z).2)
def Zii (s n to_:Str):Str×Int:=match ZcH s with
 | none=>([],1)
 | some es=>if Zdd to_=false then (s,1) else match atM es n with
  | none=>(s,2)
  | some i=>if Zft (Zf8 es i) to_=true then (s,3) else (Zeu (ZpQ es i to_),0)
theorem Zov (es:List Fil) (i:Nat) (to_:Str) (hi:i<es.length):(ZpQ es i to_).map Prod.fst=(es.map Prod.fst).take i++to_::(es.map Prod.fst).drop (i+1):=by
 unfold ZpQ
 rw [List.map_set,List.set_eq_take_append_cons_drop,if_pos (by rw [List.length_map];exact hi)]
theorem ZsF (es:List Fil) (h:Zwr (es.map Prod.fst)) (i:Nat) (hi:i<es.length) (to_:Str):ZfC ((ZpQ es i to_).map Prod.fst)= !Zft (Zf8 es i) to_:=by
 rw [Bool.eq_iff_iff,ZiB,Zov es i to_ hi]
 have hd:Zwr ((Zf8 es i).map Prod.fst):=h.sublist ((Zg1 es i).map _)
 have hdm:(Zf8 es i).map Prod.fst=(es.map Prod.fst).take i++(es.map Prod.fst).drop (i+1):=by unfold Zf8;rw [List.map_append,List.map_take,List.map_drop]
 have hc:(!Zft (Zf8 es i) to_)=true↔∀b∈(es.map Prod.fst).take i++(es.map Prod.fst).drop (i+1),hit to_ b=false:=by
  rw [Bool.not_eq_true',←hdm]
  unfold Zft
  rw [List.any_eq_false]
  constructor
  ·intro q b hb
   obtain ⟨e,he,rfl⟩:=List.mem_map.1 hb
   have:=q e he
   simpa using this
  ·intro q e he
   have:=q e.1 (List.mem_map.2 ⟨e,he,rfl⟩)
   simp [this]
 rw [hc]
 rw [hdm] at hd
 generalize (es.map Prod.fst).take i=A at hd ⊢
 generalize (es.map Prod.fst).drop (i+1)=B at hd ⊢
 unfold Zwr at hd ⊢
 rw [List.pairwise_append] at hd ⊢
 rw [List.pairwise_cons]
 constructor
 ·rintro ⟨_,⟨q1,_⟩,q2⟩ b hb
  rcases List.mem_append.1 hb with hb | hb
  ·exact q2 b hb to_ (List.mem_cons_self ..)
  ·rw [ZuP];exact q1 b hb
 ·intro q
  refine ⟨hd.1,⟨fun b hb=>by rw [ZuP];exact q b (List.mem_append.2 (.inr hb)),hd.2.1⟩,fun a ha b hb=>?_⟩
  rcases List.mem_cons.1 hb with rfl | hb
  ·exact q a (List.mem_append.2 (.inl ha))
  ·exact hd.2.2 a ha b hb
theorem Zps {es:List Fil} (h:ZdR es=true) {i:Nat} (hi:i<es.length) {to_:Str} (hn:Zdd to_=true) (hc:Zft (Zf8 es i) to_=false):ZdR (ZpQ es i to_)=true:=by
 obtain ⟨g1,g2,g3⟩:=(Ze6 es).1 h
 rw [Ze6]
 refine ⟨fun x hx=>?_,by unfold ZpQ;rw [List.length_set];exact g2,?_⟩
 ·unfold ZpQ at hx
  rcases List.mem_or_eq_of_mem_set hx with hx | rfl
  ·exact g1 x hx
  ·have:=g1 es[i] (List.getElem_mem hi)
   rw [Zan hi]
   obtain ⟨q1,q2,q3⟩:=ZbD this
   unfold Zcj
   dsimp only
   rw [hn,q2,decide_eq_true q3];rfl
 ·exact (ZiB _).1 (by rw [ZsF es g3 i hi,hc];rfl)
theorem Zvj (s n to_:Str) (hs:s.length≤1048576) (ht:to_.length≤1048576):Zew s n to_=some (Zii s n to_):=by
 unfold Zew Zcc Zii
 rw [ZgL s hs]
 simp only [Zaa]
 cases hz:ZcH s with
 | none=>rfl
 | some es=>
  have hok:=ZdS hz
  have h6:=(ZbI hok).2
  simp only [ZqG,Bool.not_true,cond_false]
  unfold ZdQ
  rw [ZtL es n (by omega)]
  simp only [Zaa]
  rw [ZjO to_ ht]
  simp only [Zaa]
  cases hf:Zdd to_ with
  | false=>rfl
  | true=>
   simp only [Bool.not_true,cond_false]
   rw [if_neg (by simp)]
   cases ha:atM es n with
   | none=>rfl
   | some i=>
    obtain ⟨hi,hn⟩:=ZdX ha
    rw [show atZ (some i)=(i:Int) from rfl]
    rw [decide_eq_false (by omega),cond_false,Zab _ (by simp;omega),Int.toNat_natCast]
    show Zff (((((Zbu (ZpQ es i to_)).bind _)).bind _)) _ _=_
    have hl:(ZpQ es i to_).length=es.length:=by unfold ZpQ;rw [List.length_set]
    rw [ZkG _ (by omega)]
    simp only [Zaa]
    rw [Zqu _ (by rw [List.length_map];omega) (fun b hb=>by
     rw [Zov es i to_ hi] at hb
     rcases List.mem_append.1 hb with hb | hb
     ·obtain ⟨x,hx,rfl⟩:=List.mem_map.1 (List.mem_of_mem_take hb)
      exact Zhg hok x hx
     ·rcases List.mem_cons.1 hb with rfl | hb
      ·exact ht
      ·obtain ⟨x,hx,rfl⟩:=List.mem_map.1 (List.mem_of_mem_drop hb)
       exact Zhg hok x hx)]
    simp only [Zaa]
    have har:=ZsF es ((Ze6 es).1 hok).2.2 i hi to_
    unfold ZfC at har
    rw [har,Bool.not_not]
    cases hcl:Zft (Zf8 es i) to_ with
    | true=>rfl
    | false=>
     have hzz:=Zps hok hi hf hcl
     rw [cond_false,if_neg (by simp)]
     simp only [Zaa]
     rw [show ((0:Int) != 0)=false from rfl,cond_false]
     have:=ZhJ (ZpQ es i to_) (by omega) (Zhg hzz)
     rw [if_pos hzz] at this
     show Zff ((ZbH (ZpQ es i to_)).bind _) _ _=_
     rw [this]
     simp only [Zaa,ZfY]
theorem ZnU (s n to_:Str) (hs:s.length≤1048576) (ht:to_.length≤1048576):ZbY s n to_=some (Zii s n to_):=by
 unfold ZbY Zii
 rw [ZdV s hs]
 simp only [Zaa]
 cases hz:ZcH s with
 | none=>
  simp only [ZqG]
  rw [Zi4 [] n (by simp)]
  rfl
 | some es=>
  have hok:=ZdS hz
  have h6:=(ZbI hok).2
  simp only [ZqG,Bool.not_true,cond_false]
  rw [Zi4 es n (by omega)]
  simp only [Zaa]
  rw [Zjr to_ ht]
  simp only [Zaa]
  cases hf:Zdd to_ with
  | false=>rfl
  | true=>
   simp only [Bool.not_true,cond_false]
   rw [if_neg (by simp)]
   cases ha:atM es n with
   | none=>rfl
   | some i=>
    obtain ⟨hi,hn⟩:=ZdX ha
    rw [show atZ (some i)=(i:Int) from rfl]
    rw [decide_eq_false (by omega),cond_false,ZlC es (by omega) i hi]
    simp only [Zaa]
    have hle:=(Zg1 es i).length_le
    rw [ZoS _ to_ (by omega)]
    simp only [Zaa]
    cases hcl:Zft (Zf8 es i) to_ with
    | true=>rfl
    | false=>
     have hzz:=Zps hok hi hf hcl
     have hl:(ZpQ es i to_).length=es.length:=by unfold ZpQ;rw [List.length_set]
     rw [cond_false,if_neg (by simp),Zab _ (by simp;omega),Int.toNat_natCast]
     have:=ZjD (ZpQ es i to_) (by omega) (ZbI hzz).1
     show (ZcS (ZpQ es i to_)).bind _=_
     rw [this]
     simp only [Zaa]
end Ev
end
section
namespace Ev
open Go
theorem Zjm:ZdR []=true:=rfl
theorem Zg5 {es:List Fil} (h:ZdR es=true):(Zeu es).length≤1048576:=by have:=Zkh es h;omega
theorem ZyI {es:List Fil} (h:ZdR es=true):Zbv (Zeu es)=some (true,es):=by
 rw [ZgL _ (Zg5 h),Zdl es h];rfl
theorem ZyH {es:List Fil} (h:ZdR es=true):ZbH es=some (Zeu es):=by
 have:=(ZbI h).2
 rw [ZhJ es (by omega) (Zhg h),if_pos h]
end Ev
end
section
namespace Ev
open Go
theorem ZuO (a:Str):hit a a=true:=by unfold hit;rw [beq_self_eq_true];rfl
theorem ZwB {es:List Fil} (h:ZdR es=true) {i j:Nat} (hi:i<es.length) (hj:j<es.length) (hn:es[i].1=es[j].1):i=j:=by
 have hp:=((Ze6 es).1 h).2.2
 unfold Zwr at hp
 rw [List.pairwise_map,List.pairwise_iff_getElem] at hp
 rcases Nat.lt_trichotomy i j with q | q | q
 ·have:=hp i j hi hj q
  rw [←hn,ZuO] at this;cases this
 ·exact q
 ·have:=hp j i hj hi q
  rw [←hn,ZuO] at this;cases this
theorem Zyw {es:List Fil} (h:ZdR es=true) {i:Nat} (hi:i<es.length):atM es es[i].1=some i:=by
 cases ha:atM es es[i].1 with
 | none=>exact absurd rfl (ZzM ha es[i] (List.getElem_mem hi))
 | some k=>
  obtain ⟨hk,e⟩:=ZdX ha
  rw [ZwB h hk hi e]
end Ev
end
section
namespace Ev
open Go
def Zg0 (es:List Fil) (n:Str):Str×Bool:=match atM es n with
 | none=>([],false)
 | some i=>((es.getD i Fil.z).txt,true)
theorem Zod (es:List Fil) (n:Str) (hn:es.length≤1048576):∀(j i:Nat),i+j=es.length→
  Zb8.l0 (j+1) (n,(es.length:Int),(i:Int),es)=some (match atM (es.drop i) n with | none=>.inl () | some k=>.inr ((es.getD (i+k) Fil.z).txt,true))
 | 0,i,h=>by
  rw [Zb8.l0.succ];simp only [Zb8.l0.step]
  rw [ZaQ (by omega),List.drop_eq_nil_of_le (by omega)];rfl
 | j+1,i,h=>by
  have hi:i<es.length:=by omega
  rw [Zb8.l0.succ];simp only [Zb8.l0.step]
  rw [ZaP hi,cond_true,Zab _ Zav,Int.toNat_natCast,Zgs es i hi,Zaf (by omega) (by omega),show (i:Int)+1=((i+1:Nat):Int) by omega,Zod es n hn j (i+1) (by omega)]
  unfold atM
  rw [List.drop_eq_getElem_cons hi,List.findIdx?_cons]
  cases es[i].1==n with
  | true=>
   simp only [cond_true,if_true,Nat.add_zero]
   rw [show es.getD i Fil.z=es[i] from Zan hi];rfl
  | false=>
   simp only [cond_false,Bool.false_eq_true,if_false]
   cases (es.drop (i+1)).findIdx? (fun e=>e.1==n) with
   | none=>rfl
   | some k=>simp only [Option.map_some];rw [show i+1+k=i+(k+1) by omega]
theorem Zvk {s:Str} {es:List Fil} (hs:s.length≤1048576) (h:ZcH s=some es) (n:Str):Zb8 s n=some (Zg0 es n):=by
 have h6:=(ZbI (ZdS h)).2
 have hl:=Zod es n (by omega) es.length 0 (by omega)
 rw [show ((0:Nat):Int)=0 from rfl,List.drop_zero] at hl
 unfold Zb8 Zg0
 rw [ZgL s hs,h]
 simp only [ZqG,Zaa]
 rw [ZaA,hl]
 cases atM es n with
 | none=>rfl
 | some k=>simp only [Zaa,Nat.zero_add]
theorem ZwC {es:List Fil} (h:ZdR es=true) (n:Str):Zb8 (Zeu es) n=some (Zg0 es n):=Zvk (Zg5 h) (Zdl es h) n
theorem Zx5 {es:List Fil} (h:ZdR es=true) {i:Nat} (hi:i<es.length):Zg0 es es[i].1=(es[i].txt,true):=by
 unfold Zg0
 rw [Zyw h hi]
 dsimp only
 rw [show es.getD i Fil.z=es[i] from Zan hi]
theorem Zx6 {es:List Fil} (h:ZdR es=true) {e:Fil} (he:e∈es):Zg0 es e.1=(e.txt,true):=by
 obtain ⟨i,hi,rfl⟩:=List.getElem_of_mem he
 exact Zx5 h hi
theorem Zyx {es:List Fil} {n:Str} (h:∀e∈es,e.1≠n):atM es n=none:=by
 cases ha:atM es n with
 | none=>rfl
 | some k=>
  obtain ⟨hk,e⟩:=ZdX ha
  exact absurd e (h _ (List.getElem_mem hk))
theorem Zsi {es:List Fil} {n:Str} (h:∀e∈es,e.1≠n):Zg0 es n=([],false):=by unfold Zg0;rw [Zyx h]
theorem atM_at {es:List Fil} (h:ZdR es=true) {i:Nat} (hi:i<es.length) {n:Str} (hn:es[i].1=n):atM es n=some i:=by subst hn;exact Zyw h hi
theorem ZzR {es:List Fil} {e:Fil} (h:ZdR (es++[e])=true):atM (es++[e]) e.1=some es.length∧Zf8 (es++[e]) es.length=es:=by
 refine ⟨atM_at h (i:=es.length) (by simp) (by simp),?_⟩
 unfold Zf8
 rw [List.take_left' rfl,List.drop_eq_nil_of_le (by simp),List.append_nil]
end Ev
end
section
namespace Ev
open Go
abbrev dec (u:Nat):Str:=Lib.decDigits u
theorem Zj0 {u:Nat} (h:u<10):dec u=[UInt8.ofNat (48+u)]:=by unfold dec;rw [Lib.decDigits,dif_pos h]
theorem Zyf {u:Nat} (h:¬u<10):dec u=dec (u/10)++[UInt8.ofNat (48+u%10)]:=by unfold dec;rw [Lib.decDigits,dif_neg h]
theorem Zql:∀(k u:Nat),u<10^(k+1)→1≤(dec u).length∧(dec u).length≤k+1
 | 0,u,h=>by rw [Zj0 (by simpa using h)];simp
 | k+1,u,h=>by
  by_cases c:u<10
  ·rw [Zj0 c];simp
  ·have:=Zql k (u/10) (by rw [Nat.pow_succ] at h;omega)
   rw [Zyf c,List.length_append,List.length_cons,List.length_nil];omega
theorem Zqq (d:Nat) (h:d<10):Zcn [IntKind.wrap .u8 (w64 (48+(d:Int)))]=[UInt8.ofNat (48+d)]:=by
 rw [Zaf (by omega) (by omega),show 48+(d:Int)=((48+d:Nat):Int) by omega,wrap_u8 _ (by omega)]
 rfl
theorem ZrX:∀(k u:Nat),u<10^(k+1)→u<9223372036854775808→k≤100→ZmY (k+1) (u:Int)=some (dec u)
 | 0,u,h,hb,hk=>by
  have h10:u<10:=by simpa using h
  rw [ZmY,decide_eq_false (by omega),cond_false,decide_eq_false (by omega),cond_false,decide_eq_true (by omega),cond_true,Zqq u h10,Zj0 h10]
 | k+1,u,h,hb,hk=>by
  rw [ZmY,decide_eq_false (by omega),cond_false,decide_eq_false (by omega),cond_false]
  by_cases c:u<10
  ·rw [decide_eq_true (by omega),cond_true,Zqq u c,Zj0 c]
  ·have hl:=Zql k (u/10) (by rw [Nat.pow_succ] at h;omega)
   rw [decide_eq_false (by omega),cond_false,ZaF (by omega),Zaf (n:=(u:Int)/10) (by omega) (by omega),ZaG (by omega),show (u:Int)/10=((u/10:Nat):Int) by omega,show (u:Int)%10=((u%10:Nat):Int) by omega,
    ZrX k (u/10) (by rw [Nat.pow_succ] at h;omega) (by omega) (by omega),Zqq _ (by omega)]
   simp only [Zaa]
   rw [Zad (by simp;omega),Zyf c]
theorem ZjH (u:Nat) (h:u<9223372036854775808):ZeO (u:Int)=some (dec u):=ZrX 29 u (by omega) h (by omega)
theorem ZjL (u:Nat) (h:u<9223372036854775808):itoa (u:Int)=some (dec u):=by
 unfold itoa ZAE
 rw [Zab _ (by simp;omega)]
 unfold Lib.itoa
 rw [if_neg (by omega),Int.toNat_natCast]
theorem Zzt (s:Str) (b:UInt8) (c:Int) (hb:c.toNat.toUInt8=b):idxB s c=match s.findIdx? (· == b) with | some i=>(i:Int) | none=>-1:=by
 unfold idxB firstIdx
 have h:=ZgH (· == b) s 0
 have e:((List.range (⟨s.toArray⟩:ByteArray).size).find? fun i=>(⟨s.toArray⟩:ByteArray)[i]! == c.toNat.toUInt8)=s.findIdx? (· == b):=by
  rw [List.range_eq_range']
  have hsz:(⟨s.toArray⟩:ByteArray).size=s.length:=by simp [ByteArray.size]
  rw [hsz]
  rw [show (s.findIdx? (· == b))=(s.findIdx? (· == b)).map (· + 0) by simp,←h]
  apply Ziu
  intro i hi
  rw [List.mem_range'] at hi
  obtain ⟨j,hj,rfl⟩:=hi
  have hj':j<s.length:=hj
  rw [show 0+1*j=j by omega]
  have:(⟨s.toArray⟩:ByteArray)[j]! = s.getD j 0:=by
   have hj2:j<(⟨s.toArray⟩:ByteArray).size:=by rw [hsz];exact hj'
   rw [getElem!_pos (⟨s.toArray⟩:ByteArray) j hj2]
   show s.toArray[j]=s.getD j 0
   simp [List.getD,hj']
  rw [this,hb];rfl
 rw [e]
 cases s.findIdx? (· == b)<;>rfl
def ZzE (b:UInt8):Nat→Str→List Str
 | 0,s=>[s]
 | m+1,s=>match s.findIdx? (· == b) with
  | none=>[s]
  | some i=>s.take i::ZzE b m (s.drop (i+1))
theorem Zsj {s:Str} {b:UInt8} {i:Nat} (h:i<s.length):(s.drop i).findIdx? (· == b)=if s[i]=b then some 0 else ((s.drop (i+1)).findIdx? (· == b)).map (· + 1):=by
 rw [List.drop_eq_getElem_cons h,List.findIdx?_cons]
 by_cases c:s[i]=b
 ·rw [if_pos c,c,beq_self_eq_true,if_pos rfl]
 ·rw [if_neg c,beq_false_of_ne c,if_neg (by simp)]
theorem ZzJ (x b:UInt8):((x.toNat:Int)==(b.toNat:Int))=decide (x=b):=u8_eq x b
theorem ZmZ (s:Str) (hs:s.length≤1048576) (b:UInt8) (m:Nat) (hm:m≤1000):∀(j i f:Nat) (out:List Str),i+j=s.length→f≤i→out.length≤m→
  ∃f' out',Zdx.l0 (j+1) (s,(b.toNat:Int),(m:Int),(f:Int),(i:Int),out)=some (s,((f':Nat):Int),out')∧f'≤s.length∧out'.length≤m∧
   out'++[s.drop f']=out++(if out.length<m then (match (s.drop i).findIdx? (· == b) with
    | none=>[s.drop f]
    | some k=>(s.take (i+k)).drop f::ZzE b (m-out.length-1) (s.drop (i+k+1))) else [s.drop f])
 | 0,i,f,out,h,hf,ho=>by
  rw [Zdx.l0.succ];simp only [Zdx.l0.step]
  rw [ZaQ (by omega)]
  refine ⟨f,out,rfl,by omega,ho,?_⟩
  rw [List.drop_eq_nil_of_le (show s.length≤i by omega)]
  simp
 | j+1,i,f,out,h,hf,ho=>by
  have hi:i<s.length:=by omega
  have hg:s.getD i 0=s[i]:=Zan hi
  rw [Zdx.l0.succ];simp only [Zdx.l0.step]
  rw [ZaP hi,cond_true]
  simp only [Zaa]
  by_cases c:out.length<m
  ·rw [decide_eq_true (by omega),cond_true,Zab _ Zav,Int.toNat_natCast,hg,ZzJ,if_pos c,Zsj hi]
   by_cases cb:s[i]=b
   ·rw [decide_eq_true cb,cond_true,if_pos cb,Zab _ (by simp;omega),Zab _ (by simp;omega),Zad (by simp;omega),Int.toNat_natCast,Zaf (by omega) (by omega),show (i:Int)+1=((i+1:Nat):Int) by omega]
    obtain ⟨f',out',g1,g2,g3,g4⟩:=ZmZ s hs b m hm j (i+1) (i+1) (out++[(s.take i).drop f]) (by omega) (by omega) (by simp;omega)
    refine ⟨f',out',g1,g2,g3,?_⟩
    rw [g4]
    simp only [List.length_append,List.length_cons,List.length_nil,Nat.add_zero,List.append_assoc,List.cons_append,List.nil_append]
    congr 2
    by_cases c2:out.length+1<m
    ·rw [show out.length+(0+1)=out.length+1 by omega,if_pos c2]
     obtain ⟨q,hq⟩:∃q,m-out.length-1=q+1:=⟨m-out.length-2,by omega⟩
     rw [hq,ZzE,show m-(out.length+1)-1=q by omega]
     cases (s.drop (i+1)).findIdx? (· == b) with
     | none=>rfl
     | some k=>
      dsimp only
      rw [List.drop_drop,List.drop_take,show i+1+k-(i+1)=k by omega,show i+1+k+1=i+1+(k+1) by omega]
    ·rw [show out.length+(0+1)=out.length+1 by omega,if_neg c2,show m-out.length-1=0 by omega,ZzE]
   ·rw [decide_eq_false cb,cond_false,if_neg cb,Zaf (by omega) (by omega),show (i:Int)+1=((i+1:Nat):Int) by omega]
    obtain ⟨f',out',g1,g2,g3,g4⟩:=ZmZ s hs b m hm j (i+1) f out (by omega) (by omega) ho
    refine ⟨f',out',g1,g2,g3,?_⟩
    rw [g4,if_pos c]
    cases (s.drop (i+1)).findIdx? (· == b) with
    | none=>rfl
    | some k=>
     simp only [Option.map_some]
     rw [show i+1+k=i+(k+1) by omega]
  ·rw [decide_eq_false (by omega),cond_false]
   exact ⟨f,out,rfl,by omega,ho,by rw [if_neg c]⟩
theorem Zm0 (s:Str) (hs:s.length≤1048576) (b:UInt8) (m:Nat) (hm:m≤1000):Zdx s (b.toNat:Int) (m:Int)=some (ZzE b m s):=by
 obtain ⟨f',out',h1,h2,h3,h4⟩:=ZmZ s hs b m hm s.length 0 0 [] (by omega) (by omega) (by simp)
 rw [show ((0:Nat):Int)=0 from rfl] at h1
 unfold Zdx
 rw [ZaA,h1]
 simp only [Zaa,Int.toNat_natCast]
 rw [Zab _ (ZiQ h2),Zab _ (Ze5 (by simp;omega)),h4]
 congr 1
 cases m with
 | zero=>rfl
 | succ m=>
  rw [if_pos (by simp),ZzE,List.drop_zero,List.nil_append]
  cases s.findIdx? (· == b) with
  | none=>rfl
  | some k=>simp
def Zd5 (b:UInt8) (s:Str):Str×Str×Bool:=match s.findIdx? (· == b) with
 | none=>(s,[],false)
 | some i=>(s.take i,s.drop (i+1),true)
theorem Zwa {s:Str} {b:UInt8} {i:Nat} (h:s.findIdx? (· == b)=some i):i<s.length:=(List.findIdx?_eq_some_iff_getElem.1 h).1
end Ev
end
section
namespace Ev
open Go
theorem Ziw (b:UInt8) (s:Str):(Zd5 b s).1.length≤s.length∧(Zd5 b s).2.1.length≤s.length:=by
 unfold Zd5
 cases s.findIdx? (· == b) with
 | none=>simp
 | some i=>simp;omega
end Ev
end
