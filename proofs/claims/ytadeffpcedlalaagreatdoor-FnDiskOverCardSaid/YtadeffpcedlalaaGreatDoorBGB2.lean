/- Plain laws about what the functions compute. Conditions: as stated. -/
import Derived.Lib.Bytealg
import Derived.Test.YtadeffpcedlalaaGreatDoorBGB1
set_option linter.unusedVariables false
set_option linter.unusedSimpArgs false
section
namespace Ev
open Go
def leB (n:Nat):Nat→Str
 | 0=>[]
 | k+1=>UInt8.ofNat (n%256)::leB (n/256) k
def leV:Str→Nat
 | []=>0
 | c::r=>c.toNat+256*leV r
def leN (s:Str) (a k:Nat):Nat:=leV ((s.drop a).take k)
theorem ZaI (n k:Nat):(leB n k).length=k:=by
 induction k generalizing n with
 | zero=>rfl
 | succ k ih=>simp [leB,ih]
theorem Zyc:∀s:Str,leV s<256^s.length
 | []=>by simp [leV]
 | c::r=>by
  have:=Zyc r
  have hc:c.toNat<256:=UInt8.toNat_lt _
  simp only [leV,List.length_cons,Nat.pow_succ]
  omega
theorem ZrY (k:Nat):∀n,leV (leB n k)=n%256^k:=by
 induction k with
 | zero=>intro n;simp [leB,leV,Nat.mod_one]
 | succ k ih=>
  intro n
  simp only [leB,leV,ih]
  rw [UInt8.toNat_ofNat_of_lt' (by omega:n%256<256),Nat.pow_succ,Nat.mul_comm (256^k),Nat.mod_mul]
theorem ZvH:∀s:Str,leB (leV s) s.length=s
 | []=>rfl
 | c::r=>by
  have hc:c.toNat<256:=UInt8.toNat_lt _
  simp only [List.length_cons,leB,leV]
  rw [show (c.toNat+256*leV r)/256=leV r by omega,show (c.toNat+256*leV r)%256=c.toNat by omega,ZvH r]
  simp
theorem Zgt (s:Str) (a k:Nat):leN s a k<256^k:=by
 have h:=Zyc ((s.drop a).take k)
 have:256^((s.drop a).take k).length≤256^k:=Nat.pow_le_pow_right (by omega) (by rw [List.length_take];omega)
 unfold leN;omega
theorem Zqa (K:Nat) (hK:K≤1000):∀(j i:Nat) (n:Nat) (out:List Int),i+j=K→n<9223372036854775808→out.length=i→
  Zbu.l0 (j+1) ((n:Int),(K:Int),(i:Int),out)=some (out++(leB n j).map fun c=>(c.toNat:Int))
 | 0,i,n,out,h,hn,ho=>by
  rw [Zbu.l0.succ];simp only [Zbu.l0.step]
  rw [ZaZ (by omega)];simp [leB]
 | j+1,i,n,out,h,hn,ho=>by
  rw [Zbu.l0.succ];simp only [Zbu.l0.step]
  rw [ZaY (by omega),cond_true,Zad (by simp;omega),Zaz (by omega),Zaw (by omega),show (n:Int)%256=((n%256:Nat):Int) by omega,wrap_u8 _ (by omega),show (n:Int)/256=((n/256:Nat):Int) by omega,
   Zaf (by omega) (by omega),Zaf (by omega) (by omega),show (i:Int)+1=((i+1:Nat):Int) by omega,Zqa K hK j (i+1) (n/256) _ (by omega) (by omega) (by simp [ho])]
  simp only [leB,List.map_cons]
  rw [UInt8.toNat_ofNat_of_lt' (by omega:n%256<256)]
  simp
theorem Zhe (s:Str):Zbv (s.map fun c=>(c.toNat:Int))=s:=by
 unfold Zbv
 rw [List.map_map]
 have:∀c:UInt8,((fun n:Int=>UInt8.ofNat n.toNat) ∘ fun c:UInt8=>(c.toNat:Int)) c=c:=fun c=>by simp
 induction s with
 | nil=>rfl
 | cons c r ih=>rw [List.map_cons,this,ih]
theorem Zcp (n k:Nat) (hn:n<9223372036854775808) (hk:k≤1000):Zbu (n:Int) (k:Int)=some (leB n k):=by
 have h:=Zqa k hk k 0 n [] (by omega) hn rfl
 rw [show ((0:Nat):Int)=0 from rfl,List.nil_append] at h
 unfold Zbu
 rw [Int.sub_zero,Int.toNat_natCast,h]
 simp only [Zaa]
 rw [Zhe]
theorem ZnO (K:Nat) (hK:K≤1000):∀(j i:Nat) (n:Nat) (out:List Int),i+j=K→n<9223372036854775808→out.length=i→
  Zav.l0 (j+1) ((n:Int),(K:Int),(i:Int),out)=some (out++(leB n j).map fun c=>(c.toNat:Int))
 | 0,i,n,out,h,hn,ho=>by
  rw [Zav.l0.succ];simp only [Zav.l0.step]
  rw [ZaZ (by omega)];simp [leB]
 | j+1,i,n,out,h,hn,ho=>by
  rw [Zav.l0.succ];simp only [Zav.l0.step]
  rw [ZaY (by omega),cond_true,Zad (by simp;omega),Zaz (by omega),Zaw (by omega),show (n:Int)%256=((n%256:Nat):Int) by omega,wrap_u8 _ (by omega),show (n:Int)/256=((n/256:Nat):Int) by omega,
   Zaf (by omega) (by omega),Zaf (by omega) (by omega),show (i:Int)+1=((i+1:Nat):Int) by omega,ZnO K hK j (i+1) (n/256) _ (by omega) (by omega) (by simp [ho])]
  simp only [leB,List.map_cons]
  rw [UInt8.toNat_ofNat_of_lt' (by omega:n%256<256)]
  simp
theorem Zbe (n k:Nat) (hn:n<9223372036854775808) (hk:k≤1000):Zav (n:Int) (k:Int)=some (leB n k):=by
 have h:=ZnO k hk k 0 n [] (by omega) hn rfl
 rw [show ((0:Nat):Int)=0 from rfl,List.nil_append] at h
 unfold Zav
 rw [Int.sub_zero,Int.toNat_natCast,h]
 simp only [Zaa]
 rw [Zhe]
theorem ZsT (s:Str) (a m:Nat) (h:a<s.length):leN s a (m+1)=(s.getD a 0).toNat+256*leN s (a+1) m:=by
 unfold leN
 rw [List.drop_eq_getElem_cons h,List.take_succ_cons,leV,Zal h]
theorem ZlI (s:Str) (a:Nat) (K:Nat) (hK:K≤4) (hs:s.length≤1000000000) (h:a+K≤s.length):∀(j m:Nat),j+m=K→
  Zba.l0 (j+1) (s,(a:Int),((leN s (a+j) m:Nat):Int),(j:Int)-1)=some ((leN s a K:Nat):Int)
 | 0,m,hm=>by
  rw [Zba.l0.succ];simp only [Zba.l0.step]
  rw [decide_eq_false (by omega),show m=K by omega];rfl
 | j+1,m,hm=>by
  have hb:=Zgt s (a+(j+1)) m
  have hp:256^m≤256^4:=Nat.pow_le_pow_right (by omega) (by omega)
  have hc:(s.getD (a+j) 0).toNat<256:=UInt8.toNat_lt _
  have hst:=ZsT s (a+j) m (by omega)
  rw [Zba.l0.succ];simp only [Zba.l0.step]
  rw [show ((j+1:Nat):Int)-1=(j:Int) by omega,decide_eq_true (by omega),cond_true,Zaf (n:=(a:Int)+(j:Int)) (by omega) (by omega),show (a:Int)+(j:Int)=((a+j:Nat):Int) by omega,Zab _ (Zax (by omega)),Int.toNat_natCast,
   Zaf (n:=((s.getD (a+j) 0).toNat:Int)) (by omega) (by omega),Zaf (n:=256*((leN s (a+(j+1)) m:Nat):Int)) (by omega) (by omega),Zaf (by omega) (by omega),Zaf (by omega) (by omega)]
  have e:256*((leN s (a+(j+1)) m:Nat):Int)+((s.getD (a+j) 0).toNat:Int)=((leN s (a+j) (m+1):Nat):Int):=by
   rw [hst,Nat.add_assoc];omega
  rw [e]
  exact ZlI s a K hK hs h j (m+1) (by omega)
theorem Zfw (s:Str) (a K:Nat) (hK:K≤4) (hK1:1≤K) (hs:s.length≤1000000000) (h:a+K≤s.length):Zba s (a:Int) (K:Int)=some ((leN s a K:Nat):Int):=by
 have e:=ZlI s a K hK hs h K 0 (by omega)
 rw [show leN s (a+K) 0=0 by simp [leN,leV],show ((0:Nat):Int)=0 from rfl] at e
 unfold Zba
 rw [Zaf (by omega) (by omega),show ((K:Int)-1-0).toNat+2=K+1 by omega,e]
 rfl
theorem ZsZ (s:Str) (a:Nat) (K:Nat) (hK:K≤4) (hs:s.length≤1000000000) (h:a+K≤s.length):∀(j m:Nat),j+m=K→
  Zb2.l0 (j+1) (s,(a:Int),((leN s (a+j) m:Nat):Int),(j:Int)-1)=some ((leN s a K:Nat):Int)
 | 0,m,hm=>by
  rw [Zb2.l0.succ];simp only [Zb2.l0.step]
  rw [decide_eq_false (by omega),show m=K by omega];rfl
 | j+1,m,hm=>by
  have hb:=Zgt s (a+(j+1)) m
  have hp:256^m≤256^4:=Nat.pow_le_pow_right (by omega) (by omega)
  have hc:(s.getD (a+j) 0).toNat<256:=UInt8.toNat_lt _
  have hst:=ZsT s (a+j) m (by omega)
  rw [Zb2.l0.succ];simp only [Zb2.l0.step]
  rw [show ((j+1:Nat):Int)-1=(j:Int) by omega,decide_eq_true (by omega),cond_true,Zaf (n:=(a:Int)+(j:Int)) (by omega) (by omega),show (a:Int)+(j:Int)=((a+j:Nat):Int) by omega,Zab _ (Zax (by omega)),Int.toNat_natCast,
   Zaf (n:=((s.getD (a+j) 0).toNat:Int)) (by omega) (by omega),Zaf (n:=256*((leN s (a+(j+1)) m:Nat):Int)) (by omega) (by omega),Zaf (by omega) (by omega),Zaf (by omega) (by omega)]
  have e:256*((leN s (a+(j+1)) m:Nat):Int)+((s.getD (a+j) 0).toNat:Int)=((leN s (a+j) (m+1):Nat):Int):=by
   rw [hst,Nat.add_assoc];omega
  rw [e]
  exact ZsZ s a K hK hs h j (m+1) (by omega)
theorem ZoR (s:Str) (a K:Nat) (hK:K≤4) (hK1:1≤K) (hs:s.length≤1000000000) (ha:a≤2000000000):Zb2 s (a:Int) (K:Int)=some (if a+K≤s.length then ((leN s a K:Nat):Int) else -1):=by
 unfold Zb2
 rw [decide_eq_false (by omega),cond_false,Zaf (by omega) (by omega)]
 simp only [Zaa]
 by_cases h:a+K≤s.length
 ·have e:=ZsZ s a K hK hs h K 0 (by omega)
  rw [show leN s (a+K) 0=0 by simp [leN,leV],show ((0:Nat):Int)=0 from rfl] at e
  rw [if_pos h,decide_eq_false (by omega),cond_false,Zaf (by omega) (by omega),show ((K:Int)-1-0).toNat+2=K+1 by omega,e]
  rfl
 ·rw [if_neg h,decide_eq_true (by omega),cond_true]
end Ev
end
section
namespace Ev
open Go
theorem Zr1:Zgu=Zoe:=rfl
theorem Zwn (y mo:Int):∃n,Zoe y mo=some n∧n≤31:=by
 unfold Zoe
 cases (mo==4)<;>cases (mo==6)<;>cases (mo==9)<;>cases (mo==11)<;>simp only [cond_true,cond_false,Zaa]<;>first
  | exact ⟨30,rfl,by omega⟩
  | (cases (mo==2)<;>simp only [cond_true,cond_false,Zaa]<;>first
    | exact ⟨31,rfl,by omega⟩
    | (cases (y.tmod 4==0)<;>simp only [cond_true,cond_false,Zaa]<;>first
      | exact ⟨28,rfl,by omega⟩
      | (cases (y.tmod 100 != 0)<;>simp only [cond_true,cond_false,Zaa]<;>first
        | exact ⟨29,rfl,by omega⟩
        | (cases (y.tmod 400==0)<;>first
          | exact ⟨29,rfl,by omega⟩
          | exact ⟨28,rfl,by omega⟩))))
theorem ZxR (y mo:Int):∃n,Zoe y mo=some n:=by
 obtain ⟨n,h,_⟩:=Zwn y mo
 exact ⟨n,h⟩
def Zm5 (y mo:Int):Int:=(Zoe y mo).getD 0
theorem Zwo (y mo:Int):Zoe y mo=some (Zm5 y mo):=by
 obtain ⟨n,h⟩:=ZxR y mo
 unfold Zm5;rw [h];rfl
def stM (y mo d h mi sec:Int):Bool:=decide (1980≤y∧y≤2107)&&(decide (1≤mo∧mo≤12)&&(decide (1≤d∧d≤Zm5 y mo)&&(decide (0≤h∧h≤23)&&(decide (0≤mi∧mi≤59)&&(decide (0≤sec∧sec≤58)&&(sec.tmod 2==0))))))
theorem ZjB (y mo d h mi sec:Int):Zdn y mo d h mi sec=some (stM y mo d h mi sec):=by
 unfold Zdn stM
 simp only [ZdI,Zwo,Zaa]
 cases decide (1980≤y∧y≤2107)<;>cases decide (1≤mo∧mo≤12)<;>cases decide (1≤d∧d≤Zm5 y mo)<;>cases decide (0≤h∧h≤23)<;>cases decide (0≤mi∧mi≤59)<;>cases decide (0≤sec∧sec≤58)<;>rfl
theorem ZmS (y mo d h mi sec:Int):ZbO y mo d h mi sec=some (stM y mo d h mi sec):=by
 unfold ZbO stM
 rw [Zr1]
 simp only [Zk0,Zwo,Zaa]
 cases decide (1980≤y∧y≤2107)<;>cases decide (1≤mo∧mo≤12)<;>cases decide (1≤d∧d≤Zm5 y mo)<;>cases decide (0≤h∧h≤23)<;>cases decide (0≤mi∧mi≤59)<;>cases decide (0≤sec∧sec≤58)<;>rfl
theorem ZxS (y mo:Int):Zm5 y mo≤31:=by
 obtain ⟨n,h,hn⟩:=Zwn y mo
 unfold Zm5;rw [h];exact hn
def stN (y mo d h mi sec:Nat):Nat:=sec/2+mi*32+h*2048+d*65536+mo*2097152+(y-1980)*33554432
theorem ZjC {y mo d h mi sec:Int} (hk:stM y mo d h mi sec=true):∃y' mo' d' h' mi' sec':Nat,y=y'∧mo=mo'∧d=d'∧h=h'∧mi=mi'∧sec=sec'∧1980≤y'∧y'≤2107∧1≤mo'∧mo'≤12∧1≤d'∧d'≤31∧h'≤23∧mi'≤59∧sec'≤58∧sec'%2=0:=by
 simp only [stM,Bool.and_eq_true,decide_eq_true_eq,beq_iff_eq] at hk
 obtain ⟨⟨a1,a2⟩,⟨b1,b2⟩,⟨c1,c2⟩,⟨d1,d2⟩,⟨e1,e2⟩,⟨f1,f2⟩,g⟩:=hk
 have:=ZxS y mo
 rw [Zaz f1] at g
 exact ⟨y.toNat,mo.toNat,d.toNat,h.toNat,mi.toNat,sec.toNat,by omega,by omega,by omega,by omega,by omega,by omega,by omega,by omega,by omega,by omega,by omega,by omega,by omega,by omega,by omega,by omega⟩
theorem Zlm {y mo d h mi sec:Nat} (hk:stM y mo d h mi sec=true):Zcf y mo d h mi sec=some ((stN y mo d h mi sec:Nat):Int):=by
 obtain ⟨y',mo',d',h',mi',sec',e1,e2,e3,e4,e5,e6,b⟩:=ZjC hk
 obtain rfl:y=y':=by omega
 obtain rfl:mo=mo':=by omega
 obtain rfl:d=d':=by omega
 obtain rfl:h=h':=by omega
 obtain rfl:mi=mi':=by omega
 obtain rfl:sec=sec':=by omega
 obtain ⟨b1,b2,b3,b4,b5,b6,b7,b8,b9,b10⟩:=b
 unfold Zcf
 rw [ZjB,hk]
 simp only [Zaa,Bool.not_true,cond_false]
 have s1:=ZeJ mi 5 (by omega) (by omega)
 have s2:=ZeJ h 11 (by omega) (by omega)
 have s3:=ZeJ d 16 (by omega) (by omega)
 have s4:=ZeJ mo 21 (by omega) (by omega)
 have s5:=ZeJ (y-1980) 25 (by omega) (by omega)
 rw [show ((5:Nat):Int)=5 from rfl] at s1
 rw [show ((11:Nat):Int)=11 from rfl] at s2
 rw [show ((16:Nat):Int)=16 from rfl] at s3
 rw [show ((21:Nat):Int)=21 from rfl] at s4
 rw [show ((25:Nat):Int)=25 from rfl] at s5
 rw [Zaw (by omega),show (sec:Int)/2=((sec/2:Nat):Int) by omega,Zaf (by omega) (by omega),Zaf (by omega) (by omega),show (y:Int)-1980=((y-1980:Nat):Int) by omega,s1,s2,s3,s4,s5]
 rw [ZjZ _ _ (by omega) (by omega),ZlG (sec/2) mi 5 (by omega)]
 rw [ZjZ _ _ (by omega) (by omega),ZlG _ h 11 (by omega)]
 rw [ZjZ _ _ (by omega) (by omega),ZlG _ d 16 (by omega)]
 rw [ZjZ _ _ (by omega) (by omega),ZlG _ mo 21 (by omega)]
 rw [ZjZ _ _ (by omega) (by omega),ZlG _ (y-1980) 25 (by omega)]
 rfl
theorem ZpI {y mo d h mi sec:Int} (hk:stM y mo d h mi sec=false):Zcf y mo d h mi sec=some (-1):=by
 unfold Zcf
 rw [ZjB,hk];rfl
theorem Zxv {y mo d h mi sec:Nat} (hk:stM y mo d h mi sec=true):ZiX y mo d h mi sec=some ((stN y mo d h mi sec:Nat):Int):=by
 obtain ⟨y',mo',d',h',mi',sec',e1,e2,e3,e4,e5,e6,b⟩:=ZjC hk
 obtain rfl:y=y':=by omega
 obtain rfl:mo=mo':=by omega
 obtain rfl:d=d':=by omega
 obtain rfl:h=h':=by omega
 obtain rfl:mi=mi':=by omega
 obtain rfl:sec=sec':=by omega
 obtain ⟨b1,b2,b3,b4,b5,b6,b7,b8,b9,b10⟩:=b
 unfold ZiX
 rw [Zaw (by omega)]
 rw [Zaf (n:=(y:Int)-1980) (by omega) (by omega)]
 rw [Zaf (n:=((y:Int)-1980)*16) (by omega) (by omega)]
 rw [Zaf (n:=((y:Int)-1980)*16+mo) (by omega) (by omega)]
 rw [Zaf (n:=(((y:Int)-1980)*16+mo)*32) (by omega) (by omega)]
 rw [Zaf (n:=(((y:Int)-1980)*16+mo)*32+d) (by omega) (by omega)]
 rw [Zaf (n:=((((y:Int)-1980)*16+mo)*32+d)*32) (by omega) (by omega)]
 rw [Zaf (n:=((((y:Int)-1980)*16+mo)*32+d)*32+h) (by omega) (by omega)]
 rw [Zaf (n:=(((((y:Int)-1980)*16+mo)*32+d)*32+h)*64) (by omega) (by omega)]
 rw [Zaf (n:=(((((y:Int)-1980)*16+mo)*32+d)*32+h)*64+mi) (by omega) (by omega)]
 rw [Zaf (n:=((((((y:Int)-1980)*16+mo)*32+d)*32+h)*64+mi)*32) (by omega) (by omega)]
 rw [Zaf (n:=(sec:Int)/2) (by omega) (by omega)]
 rw [Zaf (by omega) (by omega)]
 unfold stN
 congr 1
 omega
structure Stm where
 y:Nat
 mo:Nat
 d:Nat
 h:Nat
 mi:Nat
 sec:Nat
def stG (n:Nat):Stm:=⟨n/33554432+1980,n/2097152%16,n/65536%32,n/2048%32,n/32%64,2*(n%32)⟩
theorem Zxw (n:Nat) (hn:n<4294967296):ZiY (n:Int)=some (((stG n).y:Int),((stG n).mo:Int),((stG n).d:Int),((stG n).h:Int),((stG n).mi:Int),((stG n).sec:Int)):=by
 unfold ZiY stG
 rw [Zaw (a:=(n:Int)) (by omega),Zaf (n:=(n:Int)/32) (by omega) (by omega)]
 rw [Zaw (a:=(n:Int)/32) (by omega),Zaf (n:=(n:Int)/32/64) (by omega) (by omega)]
 rw [Zaw (a:=(n:Int)/32/64) (by omega),Zaf (n:=(n:Int)/32/64/32) (by omega) (by omega)]
 rw [Zaw (a:=(n:Int)/32/64/32) (by omega),Zaf (n:=(n:Int)/32/64/32/32) (by omega) (by omega)]
 rw [Zaw (a:=(n:Int)/32/64/32/32) (by omega),Zaf (n:=(n:Int)/32/64/32/32/16) (by omega) (by omega)]
 rw [Zaf (n:=(n:Int)/32/64/32/32/16+1980) (by omega) (by omega),Zaz (by omega),Zaz (by omega),Zaz (by omega),Zaz (by omega),Zaz (by omega),Zaf (by omega) (by omega)]
 dsimp only
 congr 1
 refine Prod.ext ?_ (Prod.ext ?_ (Prod.ext ?_ (Prod.ext ?_ (Prod.ext ?_ ?_))))<;>dsimp only<;>omega
theorem ZuZ (n:Nat) (hn:n<4294967296):stN (stG n).y (stG n).mo (stG n).d (stG n).h (stG n).mi (stG n).sec=n:=by
 unfold stN stG
 dsimp only
 omega
set_option maxRecDepth 100000 in
theorem ZoA {y mo d h mi sec:Nat} (hk:stM y mo d h mi sec=true):stG (stN y mo d h mi sec)=⟨y,mo,d,h,mi,sec⟩∧stN y mo d h mi sec<4294967296:=by
 obtain ⟨y',mo',d',h',mi',sec',e1,e2,e3,e4,e5,e6,b⟩:=ZjC hk
 obtain rfl:y=y':=by omega
 obtain rfl:mo=mo':=by omega
 obtain rfl:d=d':=by omega
 obtain rfl:h=h':=by omega
 obtain rfl:mi=mi':=by omega
 obtain rfl:sec=sec':=by omega
 obtain ⟨b1,b2,b3,b4,b5,b6,b7,b8,b9,b10⟩:=b
 unfold stG stN
 constructor
 ·congr 1<;>omega
 ·omega
theorem Zgy (x k:Nat) (hk:k≤32) (hx:x<9223372036854775808):ZkF .i64 (x:Int) ((2^k-1:Nat):Int)=((x%2^k:Nat):Int):=by
 have hp:2^k≤2^32:=Nat.pow_le_pow_right (by omega) hk
 rw [Ztg _ _ hx (by omega),Nat.and_two_pow_sub_one_eq_mod]
theorem ZrF (n:Nat) (hn:n<4294967296):Zdr (n:Int)=some (if stM (stG n).y (stG n).mo (stG n).d (stG n).h (stG n).mi (stG n).sec then
  (((stG n).y:Int),((stG n).mo:Int),((stG n).d:Int),((stG n).h:Int),((stG n).mi:Int),((stG n).sec:Int),true) else (0,0,0,0,0,0,false)):=by
 have m1:=Zgy (n/2^25) 7 (by omega) (by omega)
 have m2:=Zgy (n/2^21) 4 (by omega) (by omega)
 have m3:=Zgy (n/2^16) 5 (by omega) (by omega)
 have m4:=Zgy (n/2^11) 5 (by omega) (by omega)
 have m5:=Zgy (n/2^5) 6 (by omega) (by omega)
 have m6:=Zgy n 5 (by omega) (by omega)
 have r1:=Zfk n 25 (by omega)
 have r2:=Zfk n 21 (by omega)
 have r3:=Zfk n 16 (by omega)
 have r4:=Zfk n 11 (by omega)
 have r5:=Zfk n 5 (by omega)
 rw [show ((25:Nat):Int)=25 from rfl] at r1
 rw [show ((21:Nat):Int)=21 from rfl] at r2
 rw [show ((16:Nat):Int)=16 from rfl] at r3
 rw [show ((11:Nat):Int)=11 from rfl] at r4
 rw [show ((5:Nat):Int)=5 from rfl] at r5
 rw [show ((2^7-1:Nat):Int)=127 from rfl] at m1
 rw [show ((2^4-1:Nat):Int)=15 from rfl] at m2
 rw [show ((2^5-1:Nat):Int)=31 from rfl] at m3 m4 m6
 rw [show ((2^6-1:Nat):Int)=63 from rfl] at m5
 have f1:w64 (1980+((n/2^25%2^7:Nat):Int))=((stG n).y:Int):=by
  rw [Zaf (by omega) (by omega)];unfold stG;dsimp only;omega
 have f2:((n/2^21%2^4:Nat):Int)=((stG n).mo:Int):=rfl
 have f3:((n/2^16%2^5:Nat):Int)=((stG n).d:Int):=rfl
 have f4:((n/2^11%2^5:Nat):Int)=((stG n).h:Int):=rfl
 have f5:((n/2^5%2^6:Nat):Int)=((stG n).mi:Int):=rfl
 have f6:w64 (((n%2^5:Nat):Int)*2)=((stG n).sec:Int):=by
  rw [Zaf (by omega) (by omega)];unfold stG;dsimp only;omega
 unfold Zdr
 rw [decide_eq_false (by omega),cond_false,r1,r2,r3,r4,r5,m1,m2,m3,m4,m5,m6,f1,f2,f3,f4,f5,f6]
 cases hk:stM (stG n).y (stG n).mo (stG n).d (stG n).h (stG n).mi (stG n).sec with
 | true=>
  rw [Zlm hk,ZuZ n hn]
  simp only [Zaa]
  rw [show ((n:Int) != (n:Int))=false by simp,cond_false]
  rfl
 | false=>
  rw [ZpI hk]
  simp only [Zaa]
  rw [show ((-1:Int) != (n:Int))=true by simp only [bne_iff_ne,ne_eq];omega,cond_true]
  rfl
end Ev
end
section
namespace Ev
open Go
def Zbz (b:UInt8):Str→List Str
 | []=>[[]]
 | c::s=>if c=b then []::Zbz b s else match Zbz b s with
  | p::r=>(c::p)::r
  | []=>[[c]]
theorem ZeK (b:UInt8):∀s,Zbz b s≠[]
 | []=>by simp [Zbz]
 | c::s=>by
  simp only [Zbz]
  split
  ·simp
  ·split<;>simp
def ZxI (p:Str):List Str→List Str
 | []=>[p]
 | q::r=>(p++q)::r
theorem ZuA (b:UInt8) (c:UInt8) (p s:Str) (h:c≠b):ZxI p (Zbz b (c::s))=ZxI (p++[c]) (Zbz b s):=by
 simp only [Zbz,if_neg h]
 cases hc:Zbz b s with
 | nil=>exact absurd hc (ZeK b s)
 | cons q r=>simp [ZxI]
theorem Zwq (b:UInt8) (p s:Str):ZxI p (Zbz b (b::s))=p::Zbz b s:=by
 simp [Zbz,ZxI]
theorem Zti (l:List Str) (h:l≠[]):ZxI [] l=l:=by cases l<;>simp_all [ZxI]
theorem Zjf (b:UInt8):∀s,(Zbz b s).length≤s.length+1
 | []=>by simp [Zbz]
 | c::s=>by
  have:=Zjf b s
  simp only [Zbz]
  split
  ·simp;omega
  ·cases hc:Zbz b s with
   | nil=>simp
   | cons q r=>rw [hc] at this;simp at this ⊢;omega
theorem Zww (x:UInt8) (c:Nat) (hc:c<256):(((x.toNat:Int))==(c:Int))=(x==UInt8.ofNat c):=by
 by_cases h:x=UInt8.ofNat c
 ·subst h
  simp [UInt8.toNat_ofNat,Nat.mod_eq_of_lt hc]
 ·have h2:¬(x.toNat:Int)=(c:Int):=by
   intro e
   apply h
   have:x.toNat=c:=by omega
   rw [←this];simp
  rw [beq_eq_false_iff_ne.2 h,beq_eq_false_iff_ne.2 h2]
theorem ZxB (s:Str) (hs:s.length≤1099511627000):∀k i f (out:List Str),i+k=s.length→f≤i→out.length≤i→
  ∃f' out',Zdk.l0 (k+1) (s,47,((s.length:Int)+1),(f:Int),(i:Int),out)=some (s,((f':Nat):Int),out')∧f'≤s.length∧out'.length≤s.length∧
   out'++[s.drop f']=out++ZxI ((s.take i).drop f) (Zbz 47 (s.drop i)):=by
 intro k
 induction k with
 | zero=>
  intro i f out hi hf ho
  rw [Zdk.l0.succ]
  simp only [Zdk.l0.step]
  rw [ZaZ (by omega)]
  refine ⟨f,out,rfl,by omega,by omega,?_⟩
  have:i=s.length:=by omega
  subst this
  simp [Zbz,ZxI]
 | succ k ih=>
  intro i f out hi hf ho
  have hil:i<s.length:=by omega
  have hg:s.getD i 0=s[i]:=by simp [List.getD,hil]
  have hd:s.drop i=s[i]::s.drop (i+1):=List.drop_eq_getElem_cons hil
  rw [Zdk.l0.succ]
  simp only [Zdk.l0.step,Int.toNat_natCast]
  rw [Zab _ (Zax hil),ZaY hil,cond_true,hg,show decide ((out.length:Int)<(s.length:Int)+1)=true from decide_eq_true (by omega)]
  simp only [Option.bind_some,cond_true]
  have hb:=Zww s[i] 47 (by decide)
  rw [show ((47:Nat):Int)=47 from rfl] at hb
  rw [hb,hd]
  by_cases hc:s[i]=UInt8.ofNat 47
  ·rw [beq_iff_eq.2 hc,cond_true,Zab _ (Zh9 (by omega)),Zab _ (Zh9 hf),Zab _ (Ze2 (by simp;omega)),Zdx (by omega)]
   obtain ⟨f',out',h1,h2,h3,h4⟩:=ih (i+1) (i+1) (out++[(s.take i).drop f]) (by omega) (by omega) (by simp;omega)
   refine ⟨f',out',h1,h2,h3,?_⟩
   rw [h4,hc]
   have e:(s.take (i+1)).drop (i+1)=[]:=List.drop_eq_nil_of_le (by simp;omega)
   rw [e,Zti _ (ZeK _ _)]
   have:=Zwq 47 ((s.take i).drop f) (s.drop (i+1))
   rw [show (UInt8.ofNat 47)=47 from rfl,this]
   simp
  ·rw [beq_eq_false_iff_ne.2 hc,cond_false,Zdx (by omega)]
   obtain ⟨f',out',h1,h2,h3,h4⟩:=ih (i+1) f out (by omega) (by omega) (by omega)
   refine ⟨f',out',h1,h2,h3,?_⟩
   rw [h4,ZuA 47 s[i] _ _ hc]
   have e:(s.take (i+1)).drop f=(s.take i).drop f++[s[i]]:=by
    rw [List.take_succ_eq_append_getElem hil,List.drop_append_of_le_length (by simp;omega)]
   rw [e]
theorem ZxC (s:Str) (hs:s.length≤1099511627000):Zdk s 47 ((s.length:Int)+1)=some (Zbz 47 s):=by
 obtain ⟨f',out',h1,h2,h3,h4⟩:=ZxB s hs s.length 0 0 [] (by omega) (by omega) (by simp)
 rw [show ((0:Nat):Int)=0 from rfl] at h1
 unfold Zdk
 rw [ZaJ,h1]
 simp only [Option.bind_some,Int.toNat_natCast]
 rw [Zab _ (Zh9 h2),Zab _ (Ze2 (by simp;omega)),h4]
 simp only [List.take_zero,List.drop_zero,List.nil_append,List.drop_nil]
 rw [Zti _ (ZeK _ _)]
end Ev
end
section
namespace Ev
open Go
def okN (n:Int):Bool:=decide ((97≤n∧n≤122)∨(48≤n∧n≤57)∨n=46∨n=45∨n=95)
def okC (c:UInt8):Bool:=okN c.toNat
theorem ZhA {α:Type} (p:Prop) [Decidable p] (x y:α):(bif decide p then x else y)=if p then x else y:=by
 by_cases h:p<;>simp [h]
theorem ZxV {α:Type} (a b:Int) (x y:α):(bif a != b then x else y)=if a=b then y else x:=by
 by_cases h:a=b
 ·subst h;simp
 ·rw [show (a != b)=true from bne_iff_ne.2 h,if_neg h];rfl
theorem ZxW {α:Type} (a b:Int) (x y:α):(bif a==b then x else y)=if a=b then x else y:=by
 by_cases h:a=b
 ·subst h;simp
 ·rw [show (a==b)=false from beq_eq_false_iff_ne.2 h,if_neg h];rfl
def part (p:Str):Bool:=p.all okC&&(decide (1≤p.length)&&decide (p.length≤10)&&(!(p==[46])&&!(p==[46,46])))
theorem Zpz (n:Int):Zbt n 1 10=some (decide (1≤n)&&decide (n≤10)):=by
 unfold Zbt
 simp only [ZhA,ge_iff_le]
 by_cases h:(1:Int)≤n<;>simp [h]
theorem ZyN (n:Int):Zhc n 1 10=some (decide (1≤n)&&decide (n≤10)):=Zpz n
theorem Zvb (s:Str) (hs:s.length≤1099511627000):∀k i,i+k=s.length→ZcX.l0 (k+1) (s,(s.length:Int),(i:Int))=some (if (s.drop i).all okC then .inl s else .inr false):=by
 intro k
 induction k with
 | zero=>
  intro i hi
  rw [ZcX.l0.succ]
  simp only [ZcX.l0.step]
  rw [ZaZ (by omega),List.drop_eq_nil_of_le (by omega)]
  rfl
 | succ k ih=>
  intro i hi
  have hil:i<s.length:=by omega
  have hg:s.getD i 0=s[i]:=by simp [List.getD,hil]
  have hd:s.drop i=s[i]::s.drop (i+1):=List.drop_eq_getElem_cons hil
  rw [ZcX.l0.succ]
  simp only [ZcX.l0.step,Int.toNat_natCast]
  rw [Zab _ (Zax hil),ZaY hil,cond_true,Zdx (by omega),ih (i+1) (by omega),hd,List.all_cons]
  have hc:okC s[i]=okN (s[i].toNat:Int):=rfl
  rw [hc]
  simp only [hg,ZhA,ZxV]
  generalize ((s[i].toNat:Nat):Int)=n
  have key:(if n<97 then if n<48 then if n=46 then some false else if n=45 then some false else some (n != 95) else if n>57 then if n=46 then some false else if n=45 then some false else some (n != 95) else some false
    else if n>122 then if n<48 then if n=46 then some false else if n=45 then some false else some (n != 95) else if n>57 then if n=46 then some false else if n=45 then some false else some (n != 95) else some false else some false)=some (!okN n):=by
   unfold okN
   repeat' split
   all_goals
    congr 1
    rw [Bool.eq_iff_iff]
    simp
    try omega
  rw [key]
  simp only [Option.bind_some]
  cases okN n<;>rfl
theorem Zvc (s:Str) (hs:s.length≤1099511627000):ZcX s=some (part s):=by
 unfold ZcX
 have h:=Zvb s hs s.length 0 (by omega)
 rw [show ((0:Nat):Int)=0 from rfl] at h
 rw [ZaJ,h]
 simp only [List.drop_zero,Option.bind_some]
 unfold part
 cases h1:s.all okC with
 | false=>rfl
 | true=>
  simp only [if_true,Zpz,Option.bind_some,Bool.true_and]
  have e1:decide ((1:Int)≤(s.length:Int))=decide (1≤s.length):=by rw [Bool.eq_iff_iff];simp;omega
  have e2:decide ((s.length:Int)≤10)=decide (s.length≤10):=by rw [Bool.eq_iff_iff];simp;omega
  rw [e1,e2]
  cases decide (1≤s.length)<;>cases decide (s.length≤10)<;>cases (s==[46])<;>rfl
end Ev
end
section
namespace Ev
open Go
theorem ZoE (w:Str) (i1:Int) (list:List Str) (hs:w.length≤1099511627000):∀k i,i+k=w.length→Zar.l0 (k+1) (i1,w,(i:Int),list)=some (if (w.drop i).all okC then .inl (i1,w,list) else .inr (.inr false)):=by
 intro k
 induction k with
 | zero=>
  intro i hi
  rw [Zar.l0.succ]
  simp only [Zar.l0.step]
  rw [ZaZ (by omega),List.drop_eq_nil_of_le (by omega)]
  rfl
 | succ k ih=>
  intro i hi
  have hil:i<w.length:=by omega
  have hg:w.getD i 0=w[i]:=by simp [List.getD,hil]
  have hd:w.drop i=w[i]::w.drop (i+1):=List.drop_eq_getElem_cons hil
  have hn:∀{β:Type} (x:Option β),need (decide ((0:Int)≤(i:Int))&&decide ((i:Int)<(w.length:Int))) x=x:=fun x=>Zab _ (Zax hil)
  rw [Zar.l0.succ]
  simp only [Zar.l0.step,Int.toNat_natCast]
  simp only [hn]
  rw [ZaY hil,cond_true,Zdx (by omega),ih (i+1) (by omega),hd,List.all_cons]
  have hc:okC w[i]=okN (w[i].toNat:Int):=rfl
  rw [hc]
  simp only [hg,ZhA,ZxW,ge_iff_le]
  generalize ((w[i].toNat:Nat):Int)=n
  have key:∀{β:Type} (g:Bool→Option β),((if 97≤n then if n≤122 then some (!true) else if 48≤n then if n≤57 then some (!true) else if n=46 then some (!true) else if n=45 then some (!true) else some (!(n==95)) else if n=46 then some (!true) else if n=45 then some (!true) else some (!(n==95)) else if 48≤n then if n≤57 then some (!true) else if n=46 then some (!true) else if n=45 then some (!true) else some (!(n==95)) else if n=46 then some (!true) else if n=45 then some (!true) else some (!(n==95))).bind g)=g (!okN n):=by
   intro β g
   rw [show (if 97≤n then if n≤122 then some (!true) else if 48≤n then if n≤57 then some (!true) else if n=46 then some (!true) else if n=45 then some (!true) else some (!(n==95)) else if n=46 then some (!true) else if n=45 then some (!true) else some (!(n==95)) else if 48≤n then if n≤57 then some (!true) else if n=46 then some (!true) else if n=45 then some (!true) else some (!(n==95)) else if n=46 then some (!true) else if n=45 then some (!true) else some (!(n==95)))=some (!okN n) by
    unfold okN
    repeat' split
    all_goals
     congr 1
     rw [Bool.eq_iff_iff]
     simp
     try omega]
   rfl
  rw [key]
  cases okN n<;>rfl
theorem ZxQ (n:Nat):decide ((1:Int)≤(n:Int))=decide (1≤n):=by rw [Bool.eq_iff_iff];simp;omega
theorem Zwm (n:Nat):decide ((n:Int)≤10)=decide (n≤10):=by rw [Bool.eq_iff_iff];simp;omega
theorem Ztq (n:Nat):decide ((n:Int)≤4)=decide (n≤4):=by rw [Bool.eq_iff_iff];simp;omega
theorem ZoD (l:List Str) (hl:l.length≤1099511627000) (hx:∀p,p∈l→p.length≤1099511627000):∀k i,i+k=l.length→Zar.l1 (k+1) ((i:Int),l)=some (if (l.drop i).all part then .inl l else .inr false):=by
 intro k
 induction k with
 | zero=>
  intro i hi
  rw [Zar.l1.succ]
  simp only [Zar.l1.step]
  rw [ZaZ (by omega),List.drop_eq_nil_of_le (by omega)]
  rfl
 | succ k ih=>
  intro i hi
  have hil:i<l.length:=by omega
  have hg:l.getD i []=l[i]:=by simp [List.getD,hil]
  have hd:l.drop i=l[i]::l.drop (i+1):=List.drop_eq_getElem_cons hil
  have hm:=hx l[i] (List.getElem_mem hil)
  rw [Zar.l1.succ]
  simp only [Zar.l1.step,Int.toNat_natCast]
  rw [Zab _ (Zax hil),ZaY hil,cond_true,hg,ZaJ]
  have h0:=ZoE l[i] (i:Int) l hm l[i].length 0 (by omega)
  rw [show ((0:Nat):Int)=0 from rfl] at h0
  rw [h0,List.drop_zero,hd,List.all_cons]
  unfold part
  cases h1:l[i].all okC with
  | false=>rfl
  | true=>
   simp only [if_true,Option.bind_some,ZyN,ZxQ,Zwm,Bool.true_and]
   have hn:=ih (i+1) (by omega)
   rw [Zdx (by omega),hn]
   unfold part
   cases decide (1≤l[i].length)<;>cases decide (l[i].length≤10)<;>cases (l[i]==[46])<;>cases (l[i]==[46,46])<;>rfl
theorem Ziu (b:UInt8):∀(s:Str) (p:Str),p∈Zbz b s→p.length≤s.length
 | [],p,h=>by simp [Zbz] at h;subst h;simp
 | c::s,p,h=>by
  have ih:=Ziu b s
  simp only [Zbz] at h
  split at h
  ·cases h with
   | head=>simp
   | tail _ h=>have:=ih p h;simp;omega
  ·cases hc:Zbz b s with
   | nil=>rw [hc] at h;simp at h;subst h;simp
   | cons q r=>
    rw [hc] at h
    cases h with
    | head=>have:=ih q (by rw [hc];simp);simp;omega
    | tail _ h=>have:=ih p (by rw [hc];exact List.mem_cons_of_mem _ h);simp;omega
def Zdu (s:Str):Bool:=(Zbz 47 s).all part&&decide ((Zbz 47 s).length≤4)
theorem ZoF (s:Str) (hs:s.length≤1048576):Zar s=some (Zdu s):=by
 unfold Zar
 rw [Zaf (by omega) (by omega),ZxC s (by omega)]
 simp only [Option.bind_some]
 have hl:=Zjf 47 s
 have h:=ZoD (Zbz 47 s) (by omega) (fun p hp=>by have:=Ziu 47 s p hp;omega) (Zbz 47 s).length 0 (by omega)
 rw [show ((0:Nat):Int)=0 from rfl] at h
 rw [ZaJ,h,List.drop_zero]
 unfold Zdu
 cases h1:(Zbz 47 s).all part with
 | false=>rfl
 | true=>simp only [if_true,Option.bind_some,Ztq,Bool.true_and]
end Ev
end
section
namespace Ev
open Go
theorem ZhO {α:Type} {p q:α→Bool}:∀{l:List α},(∀x,x∈l→p x=q x)→l.find? p=l.find? q
 | [],_=>rfl
 | x::l,h=>by
  rw [List.find?_cons,List.find?_cons,h x (by simp),ZhO fun y hy=>h y (by simp [hy])]
theorem Zgd (p:UInt8→Bool):∀(s:Str) (k:Nat),((List.range' k s.length).find? fun i=>p (s.getD (i-k) 0))=(s.findIdx? p).map (· + k)
 | [],k=>by simp
 | c::s,k=>by
  have ih:=Zgd p s (k+1)
  rw [List.length_cons,List.range'_succ,List.find?_cons,Nat.sub_self,List.findIdx?_cons]
  cases h:p c with
  | true=>simp [h]
  | false=>
   simp only [List.getD_cons_zero,h]
   have e:((List.range' (k+1) s.length).find? fun i=>p ((c::s).getD (i-k) 0))=((List.range' (k+1) s.length).find? fun i=>p (s.getD (i-(k+1)) 0)):=by
    apply ZhO
    intro i hi
    rw [List.mem_range'] at hi
    obtain ⟨j,hj,rfl⟩:=hi
    rw [show k+1+1*j-k=j+1 by omega,show k+1+1*j-(k+1)=j by omega,List.getD_cons_succ]
   rw [e,ih]
   cases s.findIdx? p<;>simp;omega
theorem ZyP (s:Str):idxB s 47=match s.findIdx? (· == 47) with | some i=>(i:Int) | none=>-1:=by
 unfold idxB firstIdx
 have h:=Zgd (· == 47) s 0
 have e:((List.range (⟨s.toArray⟩:ByteArray).size).find? fun i=>(⟨s.toArray⟩:ByteArray)[i]! == (47:Int).toNat.toUInt8)=s.findIdx? (· == 47):=by
  rw [List.range_eq_range']
  have hsz:(⟨s.toArray⟩:ByteArray).size=s.length:=by simp [ByteArray.size]
  rw [hsz]
  rw [show (s.findIdx? (· == 47))=(s.findIdx? (· == 47)).map (· + 0) by simp,←h]
  apply ZhO
  intro i hi
  rw [List.mem_range'] at hi
  obtain ⟨j,hj,rfl⟩:=hi
  have hj':j<s.length:=hj
  rw [show 0+1*j=j by omega]
  have:(⟨s.toArray⟩:ByteArray)[j]! = s.getD j 0:=by
   have hj2:j<(⟨s.toArray⟩:ByteArray).size:=by rw [hsz];exact hj'
   rw [getElem!_pos (⟨s.toArray⟩:ByteArray) j hj2]
   show s.toArray[j]=s.getD j 0
   simp [List.getD,hj']
  rw [this];rfl
 rw [e]
 cases s.findIdx? (· == 47)<;>rfl
end Ev
end
section
namespace Ev
open Go
theorem Zka:∀{s:Str},s.findIdx? (· == 47)=none→Zbz 47 s=[s]
 | [],_=>rfl
 | c::s,h=>by
  rw [List.findIdx?_cons] at h
  cases hc:(c==(47:UInt8)) with
  | true=>rw [hc] at h;simp at h
  | false=>
   rw [hc] at h
   have ih:=Zka (s:=s) (by simpa using h)
   simp only [Zbz,if_neg (beq_eq_false_iff_ne.1 hc),ih]
theorem Zj9:∀{s:Str} {m:Nat},s.findIdx? (· == 47)=some m→m<s.length∧Zbz 47 s=s.take m::Zbz 47 (s.drop (m+1))
 | [],m,h=>by simp at h
 | c::s,m,h=>by
  rw [List.findIdx?_cons] at h
  cases hc:(c==(47:UInt8)) with
  | true=>
   rw [hc] at h
   simp at h;subst h
   have:=beq_iff_eq.1 hc
   subst this
   exact ⟨by simp,by simp [Zbz]⟩
  | false=>
   rw [hc] at h
   simp only [cond_false,Bool.false_eq_true,if_false,Option.map_eq_some_iff] at h
   obtain ⟨m',h',rfl⟩:=h
   obtain ⟨a,b⟩:=Zj9 h'
   refine ⟨by simp;omega,?_⟩
   simp only [Zbz,if_neg (beq_eq_false_iff_ne.1 hc),b,List.take_succ_cons,List.drop_succ_cons]
theorem Zmx:∀(s:Str) (n:Int),s.foldl (fun (n:Int) x=>if x==47 then n+1 else n) n=n+((Zbz 47 s).length-1)
 | [],n=>by simp [Zbz]
 | c::s,n=>by
  rw [List.foldl_cons,Zmx s]
  have hne:=ZeK 47 s
  have hpos:1≤(Zbz 47 s).length:=by cases h:Zbz 47 s with
   | nil=>exact absurd h hne
   | cons _ _=>simp
  by_cases hc:c=47
  ·subst hc
   simp [Zbz];omega
  ·rw [beq_eq_false_iff_ne.2 hc]
   simp only [Zbz,if_neg hc]
   cases h:Zbz 47 s with
   | nil=>exact absurd h hne
   | cons q r=>simp
theorem ZyV (s:Str):cntB s 47=(Zbz 47 s).length-1:=by
 unfold cntB
 rw [Go.Lib.foldl_data]
 have:=Zmx s 0
 rw [Int.zero_add] at this
 exact this
theorem ZvZ (s:Str):ZfX s=some (match s.findIdx? (· == 47) with | some i=>(i:Int) | none=>-1):=by
 unfold ZfX Zdg Zbi ZbT
 simp only [Option.bind_some,ZyP]
 by_cases h:([47]:Str)=s
 ·subst h;rfl
 ·rw [beq_eq_false_iff_ne.2 h];rfl
theorem ZqY:∀k i (s2:Str) (done:List Str),s2.length≤1048576→(Zbz 47 s2).length=k+1→done.length=i→i+k≤2000000→
  ∃s3,Zbg.l0 (k+1) (s2,((i+k:Nat):Int),(i:Int),done++List.replicate (k+1) ([]:Str))=some (s3,((i+k:Nat):Int),done++((Zbz 47 s2).dropLast++[[]]))∧(Zbz 47 s2).getLast? = some s3:=by
 intro k
 induction k with
 | zero=>
  intro i s2 done hs hc hd hi
  rw [Zbg.l0.succ]
  simp only [Zbg.l0.step]
  rw [ZaZ (by omega),cond_false]
  cases h:Zbz 47 s2 with
  | nil=>rw [h] at hc;simp at hc
  | cons q r=>
   rw [h] at hc
   have hr:r=[]:=List.eq_nil_of_length_eq_zero (by simpa using hc)
   subst hr
   have hq:q=s2:=by
    cases hf:s2.findIdx? (· == 47) with
    | none=>rw [Zka hf] at h;simpa using h.symm
    | some m=>
     rw [(Zj9 hf).2] at h
     have:=ZeK 47 (s2.drop (m+1))
     simp at h;exact absurd h.2 this
   subst hq
   exact ⟨q,by simp,by simp⟩
 | succ k ih=>
  intro i s2 done hs hc hd hi
  rw [Zbg.l0.succ]
  simp only [Zbg.l0.step,ZvZ,Option.bind_some]
  rw [ZaY (by omega),cond_true]
  cases hf:s2.findIdx? (· == 47) with
  | none=>rw [Zka hf] at hc;simp at hc
  | some m=>
   obtain ⟨hm,hcut⟩:=Zj9 hf
   rw [hcut] at hc ⊢
   have hc':(Zbz 47 (s2.drop (m+1))).length=k+1:=by simpa using hc
   simp only []
   rw [show decide ((m:Int)<0)=false from decide_eq_false (by omega),cond_false,Int.add_zero,Zaf (n:=(m:Int)) (by omega) (by omega),Zab _ (Zh9 (by omega)),Int.toNat_natCast,
    Zdx (by omega),Zab _ (Zh9 (by omega)),Zab _ (Zax (by simp;omega)),Zdx (by omega),Int.toNat_natCast,Int.toNat_natCast]
   have e:(done++List.replicate (k+1+1) ([]:Str)).set i (s2.take m)=(done++[s2.take m])++List.replicate (k+1) ([]:Str):=by
    rw [List.set_append,if_neg (by omega),hd,Nat.sub_self,List.replicate_succ,List.set_cons_zero];simp
   rw [e]
   obtain ⟨s3,h1,h2⟩:=ih (i+1) (s2.drop (m+1)) (done++[s2.take m]) (by simp;omega) hc' (by simp [hd]) (by omega)
   refine ⟨s3,?_,?_⟩
   ·rw [show i+(k+1)=i+1+k by omega,h1]
    cases hq:Zbz 47 (s2.drop (m+1)) with
    | nil=>exact absurd hq (ZeK _ _)
    | cons a b=>simp
   ·cases hq:Zbz 47 (s2.drop (m+1)) with
    | nil=>exact absurd hq (ZeK _ _)
    | cons a b=>rw [hq] at h2;rw [List.getLast?_cons_cons];exact h2
theorem Zvu {a b:Int} (h:a≤b):ZkC a b=a:=by unfold ZkC;rw [if_neg (by omega)]
theorem ZqZ (s:Str) (hs:s.length≤1048576):Zbg s=some (Zbz 47 s):=by
 have hlen:=Zjf 47 s
 have hpos:1≤(Zbz 47 s).length:=by cases h:Zbz 47 s with
  | nil=>exact absurd h (ZeK 47 s)
  | cons _ _=>simp
 obtain ⟨k,hk⟩:∃k,(Zbz 47 s).length=k+1:=⟨(Zbz 47 s).length-1,by omega⟩
 unfold Zbg ZgB ZdG
 simp only [Option.bind_some,ZyV,hk]
 rw [show (((k+1:Nat):Int)-1)=(k:Int) by omega,Zaf (n:=(k:Int)+1) (by omega) (by omega),Zaf (n:=(s.length:Int)+1) (by omega) (by omega),Zvu (by omega),
  Zaf (n:=(k:Int)+1-1) (by omega) (by omega),show ((k:Int)+1).toNat=k+1 by omega,show ((k:Int)+1-1)=(k:Int) by omega,ZaJ]
 rw [Zab _ (by simp;exact ⟨by omega,Ze2 (by omega)⟩)]
 obtain ⟨s3,h1,h2⟩:=ZqY k 0 s [] hs hk rfl (by omega)
 simp only [Nat.zero_add,List.nil_append] at h1
 rw [show ((0:Nat):Int)=0 from rfl] at h1
 rw [h1]
 simp only [Option.bind_some,Int.toNat_natCast]
 have hdl:(Zbz 47 s).dropLast.length=k:=by simp [hk]
 have hset:((Zbz 47 s).dropLast++[([]:Str)]).set k s3=Zbz 47 s:=by
  rw [List.set_append,if_neg (by omega),hdl,Nat.sub_self,List.set_cons_zero]
  obtain ⟨ys,hy⟩:=List.getLast?_eq_some_iff.1 h2
  rw [hy];simp
 have hn:w64 ((k:Int)+1)=((k+1:Nat):Int):=Zdx (by omega)
 rw [Zab _ (Zax (by simp;omega))]
 simp only [hset,hn,Int.toNat_natCast]
 rw [Zab _ (Zh9 (by omega)),List.drop_zero,List.take_of_length_le (by omega)]
theorem Zu2 (s:Str) (hs:s.length≤1048576):ZfP s=some (Zbz 47 s):=by
 unfold ZfP
 rw [ZqZ s hs];rfl
theorem ZoZ (l:List Str) (hl:l.length≤1099511627000) (hx:∀p,p∈l→p.length≤1099511627000):∀k i,i+k=l.length→Za1.l0 (k+1) (l,l,(l.length:Int),(i:Int))=some (if (l.drop i).all part then .inl l else .inr false):=by
 intro k
 induction k with
 | zero=>
  intro i hi
  rw [Za1.l0.succ]
  simp only [Za1.l0.step]
  rw [ZaZ (by omega),List.drop_eq_nil_of_le (by omega)]
  rfl
 | succ k ih=>
  intro i hi
  have hil:i<l.length:=by omega
  have hg:l.getD i []=l[i]:=by simp [List.getD,hil]
  have hd:l.drop i=l[i]::l.drop (i+1):=List.drop_eq_getElem_cons hil
  have hm:=hx l[i] (List.getElem_mem hil)
  rw [Za1.l0.succ]
  simp only [Za1.l0.step,Int.toNat_natCast]
  rw [Zab _ (Zax hil),ZaY hil,cond_true,hg,Zvc _ hm,hd,List.all_cons,Zdx (by omega)]
  simp only [Option.bind_some]
  cases part l[i] with
  | false=>rfl
  | true=>simp only [Bool.not_true,cond_false,Bool.true_and];exact ih (i+1) (by omega)
theorem Zo0 (s:Str) (hs:s.length≤1048576):Za1 s=some (Zdu s):=by
 unfold Za1
 rw [Zu2 s hs]
 simp only [Option.bind_some]
 have hl:=Zjf 47 s
 have h:=ZoZ (Zbz 47 s) (by omega) (fun p hp=>by have:=Ziu 47 s p hp;omega) (Zbz 47 s).length 0 (by omega)
 rw [show ((0:Nat):Int)=0 from rfl] at h
 rw [ZaJ,h,List.drop_zero]
 unfold Zdu
 cases h1:(Zbz 47 s).all part with
 | false=>rfl
 | true=>simp only [if_true,Option.bind_some,Ztq,Bool.true_and]
end Ev
end
section
namespace Ev
open Go
theorem ZyL {n m k:Nat} (hn:n<256^k) (hm:m<256^k) (h:leB n k=leB m k):n=m:=by
 have:=congrArg leV h
 rwa [ZrY,ZrY,Nat.mod_eq_of_lt hn,Nat.mod_eq_of_lt hm] at this
theorem Zgc (s:Str) (a k:Nat) (h:a+k≤s.length):(s.drop a).take k=leB (leN s a k) k:=by
 have hl:((s.drop a).take k).length=k:=by rw [List.length_take,List.length_drop];omega
 have:=ZvH ((s.drop a).take k)
 rw [hl] at this
 exact this.symm
theorem ZeH (s:Str) (a k:Nat):s.take (a+k)=s.take a++(s.drop a).take k:=by
 rw [List.take_add]
def ZqS (how stamp crc packed long name:Nat):Str:=
 leB 67324752 4++leB 20 2++leB 0 2++leB how 2++leB stamp 4++leB crc 4++leB packed 4++leB long 4++leB name 2++leB 0 2
theorem take30 (s:Str) (h:30≤s.length):s.take 30=leB (leN s 0 4) 4++leB (leN s 4 2) 2++leB (leN s 6 2) 2++leB (leN s 8 2) 2++leB (leN s 10 4) 4++leB (leN s 14 4) 4++leB (leN s 18 4) 4++leB (leN s 22 4) 4++leB (leN s 26 2) 2++leB (leN s 28 2) 2:=by
 rw [←Zgc s 0 4 (by omega),←Zgc s 4 2 (by omega),←Zgc s 6 2 (by omega),←Zgc s 8 2 (by omega),←Zgc s 10 4 (by omega),←Zgc s 14 4 (by omega),←Zgc s 18 4 (by omega),←Zgc s 22 4 (by omega),←Zgc s 26 2 (by omega),←Zgc s 28 2 (by omega)]
 rw [show s.take 30=s.take (28+2) from rfl,ZeH s 28 2,show s.take 28=s.take (26+2) from rfl,ZeH s 26 2,show s.take 26=s.take (22+4) from rfl,ZeH s 22 4,show s.take 22=s.take (18+4) from rfl,ZeH s 18 4,
  show s.take 18=s.take (14+4) from rfl,ZeH s 14 4,show s.take 14=s.take (10+4) from rfl,ZeH s 10 4,show s.take 10=s.take (8+2) from rfl,ZeH s 8 2,show s.take 8=s.take (6+2) from rfl,ZeH s 6 2,
  show s.take 6=s.take (4+2) from rfl,ZeH s 4 2,show s.take 4=s.take (0+4) from rfl,ZeH s 0 4,List.take_zero,List.nil_append]
theorem Zg1 {a b c d:Str} (hl:a.length=c.length):a++b=c++d↔a=c∧b=d:=by
 constructor
 ·intro h;exact List.append_inj h hl
 ·rintro ⟨rfl,rfl⟩;rfl
theorem Zo2 (s:Str) (h:30≤s.length) (how stamp crc packed long name:Nat) (h1:how<65536) (h2:stamp<4294967296) (h3:crc<4294967296) (h4:packed<4294967296) (h5:long<4294967296) (h6:name<65536) :
  ZqS how stamp crc packed long name=s.take 30↔leN s 0 4=67324752∧leN s 4 2=20∧leN s 6 2=0∧leN s 8 2=how∧leN s 10 4=stamp∧leN s 14 4=crc∧leN s 18 4=packed∧leN s 22 4=long∧leN s 26 2=name∧leN s 28 2=0:=by
 have two:∀a,leN s a 2<256^2:=fun a=>Zgt s a 2
 have four:∀a,leN s a 4<256^4:=fun a=>Zgt s a 4
 have inj:∀{n m k:Nat},n<256^k→m<256^k→(leB n k=leB m k↔m=n):=fun hn hm=>⟨fun h=>(ZyL hn hm h).symm,fun h=>by rw [h]⟩
 rw [take30 s h]
 unfold ZqS
 rw [Zg1 (by simp only [List.length_append,ZaI]),Zg1 (by simp only [List.length_append,ZaI]),Zg1 (by simp only [List.length_append,ZaI]),Zg1 (by simp only [List.length_append,ZaI]),Zg1 (by simp only [List.length_append,ZaI]),
  Zg1 (by simp only [List.length_append,ZaI]),Zg1 (by simp only [List.length_append,ZaI]),Zg1 (by simp only [List.length_append,ZaI]),Zg1 (by simp only [List.length_append,ZaI])]
 rw [inj (by omega) (four 0),inj (by omega) (two 4),inj (by omega) (two 6),inj (by omega) (two 8),inj (by omega) (four 10),inj (by omega) (four 14),inj (by omega) (four 18),inj (by omega) (four 22),inj (by omega) (two 26),inj (by omega) (two 28)]
 simp only [and_assoc]
theorem Zj8 (name:Str) (hn:name.length≤1048576) (y mo d h mi sec:Int) (text:Str):Zcm name y mo d h mi sec text=some (Zdu name&&(stM y mo d h mi sec&&decide (text.length≤300))):=by
 unfold Zcm
 rw [Zo0 name hn]
 simp only [Zaa]
 rw [ZjB]
 simp only [Zaa]
 have e:decide ((text.length:Int)≤300)=decide (text.length≤300):=by
  by_cases h:text.length≤300
  ·rw [decide_eq_true h,decide_eq_true (by omega)]
  ·rw [decide_eq_false h,decide_eq_false (by omega)]
 rw [e]
 cases Zdu name<;>cases stM y mo d h mi sec<;>rfl
theorem Zf8 (name:Str) (hn:name.length≤1048576) (y mo d h mi sec:Int) (text:Str):Za2 name y mo d h mi sec text=some (Zdu name&&(stM y mo d h mi sec&&decide (text.length≤300))):=by
 unfold Za2
 rw [ZoF name hn]
 simp only [Zaa]
 rw [ZmS]
 simp only [Zaa]
 have e:decide ((text.length:Int)≤300)=decide (text.length≤300):=by
  by_cases h:text.length≤300
  ·rw [decide_eq_true h,decide_eq_true (by omega)]
  ·rw [decide_eq_false h,decide_eq_false (by omega)]
 rw [e]
 cases Zdu name<;>cases stM y mo d h mi sec<;>rfl
theorem Zl7 (name:Str) (hn:name.length≤1048576) {y mo d h mi sec:Nat} (hk:stM y mo d h mi sec=true) (text:Str) (ht:text.length≤1048576) (how packed:Nat) (hh:how≤65535) (hp:packed≤4294967295) :
  ZdS name y mo d h mi sec text how packed=some (ZqS how (stN y mo d h mi sec) (Zpu text) packed text.length name.length):=by
 have hst:=(ZoA hk).2
 have hcr:=Ziv text
 have n20:=Zcp 20 2 (by omega) (by omega)
 have n0:=Zcp 0 2 (by omega) (by omega)
 have n1:=Zcp how 2 (by omega) (by omega)
 have n2:=Zcp (stN y mo d h mi sec) 4 (by omega) (by omega)
 have n3:=Zcp (Zpu text) 4 (by omega) (by omega)
 have n4:=Zcp packed 4 (by omega) (by omega)
 have n5:=Zcp text.length 4 (by omega) (by omega)
 have n6:=Zcp name.length 2 (by omega) (by omega)
 rw [show ((20:Nat):Int)=20 from rfl,show ((2:Nat):Int)=2 from rfl] at n20
 rw [show ((0:Nat):Int)=0 from rfl,show ((2:Nat):Int)=2 from rfl] at n0
 rw [show ((2:Nat):Int)=2 from rfl] at n1 n6
 rw [show ((4:Nat):Int)=4 from rfl] at n2 n3 n4 n5
 have L:∀n k,(leB n k).length=k:=ZaI
 have mark:([80,75,3,4]:Str)=leB 67324752 4:=by decide
 unfold ZdS
 rw [n20,n0,mark]
 simp only [Zaa]
 rw [Zad (by simp only [List.length_append,L];omega),Zad (by simp only [List.length_append,L];omega),n1]
 simp only [Zaa]
 rw [Zad (by simp only [List.length_append,L];omega),Zlm hk]
 simp only [Zaa]
 rw [n2]
 simp only [Zaa]
 rw [Zad (by simp only [List.length_append,L];omega),crc_eq text (by omega)]
 simp only [Zaa]
 rw [n3]
 simp only [Zaa]
 rw [Zad (by simp only [List.length_append,L];omega),n4]
 simp only [Zaa]
 rw [Zad (by simp only [List.length_append,L];omega),n5]
 simp only [Zaa]
 rw [Zad (by simp only [List.length_append,L];omega),n6]
 simp only [Zaa]
 rw [Zad (by simp only [List.length_append,L];omega),Zad (by simp only [List.length_append,L];omega)]
 rfl
end Ev
end
section
namespace Ev
open Go
abbrev Fil:=Str×Int×Int×Int×Int×Int×Int×Str
def ZgA (s:Str):Str×Int×Bool:=if 700<s.length then ([],0,false) else ZxJ (Zt8 s)
theorem Zx9:∀(f:Nat) (l:List Bool) (out:List Int) {l':List Bool} {o:List Int},mGo f l out=some (l',o)→o.length≤300
 | 0,l,out,l',o,h=>by cases h
 | f+1,l,out,l',o,h=>by
  rw [mGo] at h
  cases hp:ZmZ l out with
  | none=>rw [hp] at h;cases h
  | some p=>
   obtain ⟨b,l1,o1⟩:=p
   rw [hp] at h
   simp only [Option.bind_some] at h
   by_cases h3:300<o1.length
   ·rw [if_pos h3] at h;cases h
   ·rw [if_neg h3] at h
    cases b with
    | true=>
     obtain ⟨_,rfl⟩:=Prod.mk.inj (Option.some.inj h)
     omega
    | false=>exact Zx9 f l1 o1 h
theorem Zq2 (s:Str):(ZgA s).1.length≤300:=by
 unfold ZgA
 split
 ·simp
 ·unfold Zt8
  cases hg:mGo (8*s.length+1) (Zdc s) [] with
  | none=>simp [ZxJ]
  | some p=>
   obtain ⟨l,o⟩:=p
   have:=Zx9 _ _ _ hg
   simp only [Option.bind_some]
   cases ZdN (some l) with
   | none=>simp [ZxJ]
   | some l'=>simp [ZxJ,Zbv];exact this
def ZuT (how:Nat) (body:Str):Option Str:=
 if how=0 then some body else if how=8 then (if (ZgA body).2.2=true∧(ZgA body).2.1=(body.length:Int) then some (ZgA body).1 else none) else none
def ZrW (s t:Str):Prop:=Zdu ((s.drop 30).take (leN s 26 2))=true∧stM (stG (leN s 10 4)).y (stG (leN s 10 4)).mo (stG (leN s 10 4)).d (stG (leN s 10 4)).h (stG (leN s 10 4)).mi (stG (leN s 10 4)).sec=true∧t.length≤300∧
    leN s 0 4=67324752∧leN s 4 2=20∧leN s 6 2=0∧leN s 28 2=0∧leN s 14 4=Zpu t∧leN s 22 4=t.length
instance (s t:Str):Decidable (ZrW s t):=by unfold ZrW;infer_instance
def Zgs (s:Str):Option (Fil×Nat):=
 if s.length<30 then none else if s.length<30+leN s 26 2+leN s 18 4 then none else
  match ZuT (leN s 8 2) ((s.drop (30+leN s 26 2)).take (leN s 18 4)) with
  | none=>none
  | some t=>if ZrW s t then
    some (((s.drop 30).take (leN s 26 2),((stG (leN s 10 4)).y:Int),((stG (leN s 10 4)).mo:Int),((stG (leN s 10 4)).d:Int),((stG (leN s 10 4)).h:Int),((stG (leN s 10 4)).mi:Int),((stG (leN s 10 4)).sec:Int),t),30+leN s 26 2+leN s 18 4)
   else none
def Zyb:Option (Fil×Nat)→Str×Int×Int×Int×Int×Int×Int×Str×Int×Bool
 | none=>([],0,0,0,0,0,0,[],0,false)
 | some (e,n)=>(e.1,e.2.1,e.2.2.1,e.2.2.2.1,e.2.2.2.2.1,e.2.2.2.2.2.1,e.2.2.2.2.2.2.1,e.2.2.2.2.2.2.2,(n:Int),true)
theorem Zuq (s:Str):Zbm s=some (ZgA s):=Zsc s
theorem ZmU (s:Str):Zbr s=some (ZgA s):=Zlo s
theorem ZrH {P:Prop} [Decidable P] (h:¬P):some true=some (!decide P):=by rw [decide_eq_false h];rfl
theorem Zyw {P:Prop} [Decidable P] (h:P):some false=some (!decide P):=by rw [decide_eq_true h];rfl
theorem ZxX (s:Str) (h30:30≤s.length) (hs:s.length≤1048576) (hbig:30+leN s 26 2+leN s 18 4≤s.length) (y mo d h mi sec:Int) (t:Str) (ht:t.length≤1048576)
  (hg:(y,mo,d,h,mi,sec)=if stM (stG (leN s 10 4)).y (stG (leN s 10 4)).mo (stG (leN s 10 4)).d (stG (leN s 10 4)).h (stG (leN s 10 4)).mi (stG (leN s 10 4)).sec then
   (((stG (leN s 10 4)).y:Int),((stG (leN s 10 4)).mo:Int),((stG (leN s 10 4)).d:Int),((stG (leN s 10 4)).h:Int),((stG (leN s 10 4)).mi:Int),((stG (leN s 10 4)).sec:Int)) else (0,0,0,0,0,0)) :
  ((Zcm ((s.drop 30).take (leN s 26 2)) y mo d h mi sec t).bind fun EntryOk=>(bif (!EntryOk) then (some true) else
   ((ZdS ((s.drop 30).take (leN s 26 2)) y mo d h mi sec t (leN s 8 2:Int) (leN s 18 4:Int)).bind fun headOf_=>(need (decide (0≤(30:Int))&&decide ((30:Int)≤s.length)) (some (!(headOf_==(s.take 30)))))))) =
  some (!decide (ZrW s t)):=by
 have two:∀a,leN s a 2<256^2:=fun a=>Zgt s a 2
 have four:∀a,leN s a 4<256^4:=fun a=>Zgt s a 4
 have t26:=two 26
 have t8:=two 8
 have f18:=four 18
 have f10:=four 10
 have hnl:((s.drop 30).take (leN s 26 2)).length=leN s 26 2:=by rw [List.length_take,List.length_drop];omega
 rw [Zj8 _ (by omega)]
 simp only [Zaa]
 cases hst:stM (stG (leN s 10 4)).y (stG (leN s 10 4)).mo (stG (leN s 10 4)).d (stG (leN s 10 4)).h (stG (leN s 10 4)).mi (stG (leN s 10 4)).sec with
 | false=>
  rw [hst] at hg
  obtain ⟨rfl,hg'⟩:=Prod.mk.inj hg
  have:stM 0 mo d h mi sec=false:=by unfold stM;rw [decide_eq_false (by omega)];rfl
  rw [this,Bool.false_and,Bool.and_false,Bool.not_false,cond_true]
  exact ZrH (P:=ZrW s t) (fun q=>absurd q.2.1 (by rw [hst];simp))
 | true=>
  rw [hst] at hg
  simp only [if_true] at hg
  obtain ⟨g1,hg1⟩:=Prod.mk.inj hg
  obtain ⟨g2,hg2⟩:=Prod.mk.inj hg1
  obtain ⟨g3,hg3⟩:=Prod.mk.inj hg2
  obtain ⟨g4,hg4⟩:=Prod.mk.inj hg3
  obtain ⟨g5,g6⟩:=Prod.mk.inj hg4
  clear hg hg1 hg2 hg3 hg4
  subst g1 g2 g3 g4 g5 g6
  rw [hst,Bool.true_and]
  by_cases hA:Zdu ((s.drop 30).take (leN s 26 2))=true∧t.length≤300
  ·rw [hA.1,decide_eq_true hA.2]
   simp only [Bool.and_self,Bool.not_true,cond_false]
   rw [Zl7 _ (by omega) hst t ht _ _ (by omega) (by omega),ZuZ _ (by omega)]
   simp only [Zaa]
   rw [Zab _ (by simp;omega)]
   have hi:=Zo2 s h30 (leN s 8 2) (leN s 10 4) (Zpu t) (leN s 18 4) t.length (leN s 26 2) (by omega) (by omega) (Ziv t) (by omega) (by omega) (by omega)
   rw [hnl]
   by_cases he:ZqS (leN s 8 2) (leN s 10 4) (Zpu t) (leN s 18 4) t.length (leN s 26 2)=s.take 30
   ·obtain ⟨q1,q2,q3,q4,q5,q6,q7,q8,q9,q10⟩:=hi.1 he
    rw [he,show (s.take 30==s.take 30)=true from beq_self_eq_true _]
    exact Zyw (P:=ZrW s t) ⟨hA.1,hst,hA.2,q1,q2,q3,q10,q6,q8⟩
   ·rw [beq_false_of_ne he]
    refine ZrH (P:=ZrW s t) ?_
    rintro ⟨_,_,_,q1,q2,q3,q10,q6,q8⟩
    exact he (hi.2 ⟨q1,q2,q3,rfl,rfl,q6,rfl,q8,rfl,q10⟩)
  ·have:(Zdu ((s.drop 30).take (leN s 26 2))&&decide (t.length≤300))=false:=by
    cases hn:Zdu ((s.drop 30).take (leN s 26 2)) with
    | false=>rfl
    | true=>rw [decide_eq_false (fun q=>hA ⟨hn,q⟩)];rfl
   rw [this,Bool.not_false,cond_true]
   exact ZrH (P:=ZrW s t) (fun q=>hA ⟨q.1,q.2.2.1⟩)
end Ev
end
section
namespace Ev
open Go
set_option maxRecDepth 100000 in
theorem ZrT (s:Str) (hs:s.length≤1048576):Zdw s=some (Zyb (Zgs s)):=by
 unfold Zdw Zgs
 by_cases h30:s.length<30
 ·rw [if_pos h30,decide_eq_true (by omega),cond_true];rfl
 rw [if_neg h30,decide_eq_false (by omega),cond_false]
 have two:∀a,leN s a 2<256^2:=fun a=>Zgt s a 2
 have four:∀a,leN s a 4<256^4:=fun a=>Zgt s a 4
 have t26:=two 26
 have t8:=two 8
 have f18:=four 18
 have f10:=four 10
 have n8:=Zfw s 8 2 (by omega) (by omega) (by omega) (by omega)
 have n18:=Zfw s 18 4 (by omega) (by omega) (by omega) (by omega)
 have n26:=Zfw s 26 2 (by omega) (by omega) (by omega) (by omega)
 have n10:=Zfw s 10 4 (by omega) (by omega) (by omega) (by omega)
 rw [show ((8:Nat):Int)=8 from rfl,show ((2:Nat):Int)=2 from rfl] at n8
 rw [show ((18:Nat):Int)=18 from rfl,show ((4:Nat):Int)=4 from rfl] at n18
 rw [show ((26:Nat):Int)=26 from rfl,show ((2:Nat):Int)=2 from rfl] at n26
 rw [show ((10:Nat):Int)=10 from rfl,show ((4:Nat):Int)=4 from rfl] at n10
 have hl:(s.drop 30).length=s.length-30:=List.length_drop
 rw [n8]
 simp only [Zaa]
 rw [n18]
 simp only [Zaa]
 rw [n26]
 simp only [Zaa]
 rw [Zab _ (by simp;omega),hl]
 by_cases hbig:s.length<30+leN s 26 2+leN s 18 4
 ·rw [if_pos hbig]
  have hc:(bif decide (((s.length-30:Nat):Int)<((leN s 26 2:Nat):Int)) then some true else some (decide (w64 (((s.length-30:Nat):Int)-((leN s 26 2:Nat):Int))<((leN s 18 4:Nat):Int))))=some true:=by
   by_cases c:s.length-30<leN s 26 2
   ·rw [decide_eq_true (by omega)];rfl
   ·rw [decide_eq_false (by omega),cond_false,Zaf (by omega) (by omega),decide_eq_true (by omega)]
  rw [hc]
  rfl
 rw [if_neg hbig,decide_eq_false (by omega),cond_false,Zaf (n:=((s.length-30:Nat):Int)-((leN s 26 2:Nat):Int)) (by omega) (by omega),decide_eq_false (by omega)]
 simp only [Zaa,cond_false]
 rw [Zaf (n:=((leN s 26 2:Nat):Int)+((leN s 18 4:Nat):Int)) (by omega) (by omega),show ((leN s 26 2:Nat):Int)+((leN s 18 4:Nat):Int)=((leN s 26 2+leN s 18 4:Nat):Int) by omega]
 rw [Zab _ (by simp;omega),Zab _ (by simp;omega),Zab _ (by simp;omega),n10]
 simp only [Zaa]
 rw [ZrF _ (by omega)]
 have hbody:(((s.drop 30).take (leN s 26 2+leN s 18 4)).drop (leN s 26 2))=(s.drop (30+leN s 26 2)).take (leN s 18 4):=by
  rw [List.drop_take,List.drop_drop];congr 1;omega
 rw [Int.toNat_natCast,Int.toNat_natCast,hbody]
 have hbl:((s.drop (30+leN s 26 2)).take (leN s 18 4)).length=leN s 18 4:=by rw [List.length_take,List.length_drop];omega
 obtain ⟨g,hg⟩:∃g:Int×Int×Int×Int×Int×Int,g=if stM (stG (leN s 10 4)).y (stG (leN s 10 4)).mo (stG (leN s 10 4)).d (stG (leN s 10 4)).h (stG (leN s 10 4)).mi (stG (leN s 10 4)).sec then
   (((stG (leN s 10 4)).y:Int),((stG (leN s 10 4)).mo:Int),((stG (leN s 10 4)).d:Int),((stG (leN s 10 4)).h:Int),((stG (leN s 10 4)).mi:Int),((stG (leN s 10 4)).sec:Int)) else (0,0,0,0,0,0):=⟨_,rfl⟩
 obtain ⟨y,mo,d,h,mi,sec⟩:=g
 obtain ⟨b,hb⟩:∃b:Bool,(if stM (stG (leN s 10 4)).y (stG (leN s 10 4)).mo (stG (leN s 10 4)).d (stG (leN s 10 4)).h (stG (leN s 10 4)).mi (stG (leN s 10 4)).sec then
  (((stG (leN s 10 4)).y:Int),((stG (leN s 10 4)).mo:Int),((stG (leN s 10 4)).d:Int),((stG (leN s 10 4)).h:Int),((stG (leN s 10 4)).mi:Int),((stG (leN s 10 4)).sec:Int),true) else (0,0,0,0,0,0,false))=(y,mo,d,h,mi,sec,b):=by
  cases hst:stM (stG (leN s 10 4)).y (stG (leN s 10 4)).mo (stG (leN s 10 4)).d (stG (leN s 10 4)).h (stG (leN s 10 4)).mi (stG (leN s 10 4)).sec with
  | true=>
   rw [hst] at hg
   simp only [if_true] at hg ⊢
   exact ⟨true,by simp only [Prod.mk.injEq] at hg ⊢;simp [hg]⟩
  | false=>
   rw [hst] at hg
   simp only [Bool.false_eq_true,if_false] at hg ⊢
   exact ⟨false,by simp only [Prod.mk.injEq] at hg ⊢;simp [hg]⟩
 rw [hb]
 simp only [Zaa]
 have fin:∀t:Str,t.length≤1048576→
   (((Zcm ((s.drop 30).take (leN s 26 2)) y mo d h mi sec t).bind fun EntryOk=>(bif (!EntryOk) then (some true) else
    ((ZdS ((s.drop 30).take (leN s 26 2)) y mo d h mi sec t (leN s 8 2:Int) (leN s 18 4:Int)).bind fun headOf_=>(need (decide (0≤(30:Int))&&decide ((30:Int)≤s.length)) (some (!(headOf_==(s.take 30)))))))).bind fun c2=>
    (bif c2 then (some (([],0,0,0,0,0,0,[],0,false):Str×Int×Int×Int×Int×Int×Int×Str×Int×Bool)) else
     (some ((s.drop 30).take (leN s 26 2),y,mo,d,h,mi,sec,t,(w64 ((w64 (30+((leN s 26 2:Nat):Int)))+((leN s 18 4:Nat):Int))),true)))) =
   some (Zyb (if ZrW s t then
    some (((s.drop 30).take (leN s 26 2),((stG (leN s 10 4)).y:Int),((stG (leN s 10 4)).mo:Int),((stG (leN s 10 4)).d:Int),((stG (leN s 10 4)).h:Int),((stG (leN s 10 4)).mi:Int),((stG (leN s 10 4)).sec:Int),t),30+leN s 26 2+leN s 18 4)
   else none)):=by
  intro t ht
  rw [ZxX s (by omega) hs (by omega) y mo d h mi sec t ht hg]
  simp only [Zaa]
  by_cases hp:ZrW s t
  ·have hst:=hp.2.1
   rw [hst] at hg
   simp only [if_true,Prod.mk.injEq] at hg
   obtain ⟨g1,g2,g3,g4,g5,g6⟩:=hg
   subst g1 g2 g3 g4 g5 g6
   rw [if_pos hp,decide_eq_true hp,Bool.not_true,cond_false,Zaf (n:=30+((leN s 26 2:Nat):Int)) (by omega) (by omega),Zaf (by omega) (by omega)]
   unfold Zyb
   dsimp only
   congr 9
  ·rw [if_neg hp,decide_eq_false hp];rfl
 by_cases c0:leN s 8 2=0
 ·rw [c0] at fin ⊢
  rw [show (((0:Nat):Int)==0)=true from rfl,cond_true]
  simp only [Zaa]
  exact fin _ (by rw [hbl];omega)
 rw [show (((leN s 8 2:Nat):Int)==0)=false by simp only [beq_eq_false_iff_ne,ne_eq];omega,cond_false]
 by_cases c8:leN s 8 2=8
 ·rw [c8] at fin ⊢
  rw [show (((8:Nat):Int)==8)=true by simp,cond_true,Zuq]
  simp only [Zaa]
  have hle:=Zq2 ((s.drop (30+leN s 26 2)).take (leN s 18 4))
  unfold ZuT
  rw [if_neg (by omega),if_pos rfl,hbl]
  generalize ZgA ((s.drop (30+leN s 26 2)).take (leN s 18 4))=R at hle
  obtain ⟨t,n,ok⟩:=R
  dsimp only at hle ⊢
  cases ok with
  | false=>rw [if_neg (by simp)];rfl
  | true=>
   simp only [Bool.not_true,cond_false,Zaa,true_and]
   by_cases hn:n=((leN s 18 4:Nat):Int)
   ·rw [if_pos hn,show (n != ((leN s 18 4:Nat):Int))=false by simp [hn],cond_false]
    simp only [Zaa]
    exact fin t (by omega)
   ·rw [if_neg hn,show (n != ((leN s 18 4:Nat):Int))=true by simp [hn],cond_true];rfl
 ·rw [show (((leN s 8 2:Nat):Int)==8)=false by simp only [beq_eq_false_iff_ne,ne_eq];omega,cond_false]
  unfold ZuT
  rw [if_neg c0,if_neg c8];rfl
end Ev
end
section
namespace Ev
open Go
def Zpp (s:Str) (r:Str×Int×Int×Int×Int×Int×Int×Str×Int×Bool):Prop:=match Zgs s with
 | some p=>r=Zyb (some p)
 | none=>r.2.2.2.2.2.2.2.2.2=false
theorem eqI (a b:Nat):((a:Int)==(b:Int))=decide (a=b):=by
 by_cases h:a=b
 ·subst h;simp
 ·rw [decide_eq_false h];simp;omega
set_option maxRecDepth 100000 in
theorem Zqx (s:Str) (hs:s.length≤1048576):Ret (Zeu s) (Zpp s):=by
 unfold Zeu
 have two:∀a,leN s a 2<256^2:=fun a=>Zgt s a 2
 have four:∀a,leN s a 4<256^4:=fun a=>Zgt s a 4
 have t26:=two 26
 have t8:=two 8
 have f18:=four 18
 have f10:=four 10
 have q:=fun a K (h1:K≤4) (h2:1≤K) (h3:a≤2000000000)=>ZoR s a K h1 h2 (by omega) h3
 have n26:Zb2 s 26 2=_:=q 26 2 (by omega) (by omega) (by omega)
 have n18:Zb2 s 18 4=_:=q 18 4 (by omega) (by omega) (by omega)
 have n0:Zb2 s 0 4=_:=q 0 4 (by omega) (by omega) (by omega)
 have n4:Zb2 s 4 2=_:=q 4 2 (by omega) (by omega) (by omega)
 have n6:Zb2 s 6 2=_:=q 6 2 (by omega) (by omega) (by omega)
 have n28:Zb2 s 28 2=_:=q 28 2 (by omega) (by omega) (by omega)
 have n10:Zb2 s 10 4=_:=q 10 4 (by omega) (by omega) (by omega)
 have n8:Zb2 s 8 2=_:=q 8 2 (by omega) (by omega) (by omega)
 have n14:Zb2 s 14 4=_:=q 14 4 (by omega) (by omega) (by omega)
 have n22:Zb2 s 22 4=_:=q 22 4 (by omega) (by omega) (by omega)
 rw [n26,n18,n0,n4,n6,n28,n10,n8,n14,n22]
 simp only [Zaa]
 by_cases h30:s.length<30
 ·have hno:Zgs s=none:=by unfold Zgs;rw [if_pos h30]
  rw [if_neg (show ¬28+2≤s.length by omega),show (((-1:Int))==0)=false from rfl]
  have hh:∀(a b c:Bool),(bif a then bif b then bif c then some false else some false else some false else some false)=some false:=fun a b c=>by cases a<;>cases b<;>cases c<;>rfl
  rw [hh]
  simp only [Zaa,Bool.not_false,cond_true]
  refine .pure ?_
  unfold Zpp
  rw [hno]
 rw [if_pos (show 26+2≤s.length by omega),if_pos (show 18+4≤s.length by omega),if_pos (show 0+4≤s.length by omega),if_pos (show 4+2≤s.length by omega),if_pos (show 6+2≤s.length by omega),if_pos (show 28+2≤s.length by omega),
  if_pos (show 10+4≤s.length by omega),if_pos (show 8+2≤s.length by omega),if_pos (show 14+4≤s.length by omega),if_pos (show 22+4≤s.length by omega)]
 rw [show (67324752:Int)=((67324752:Nat):Int) from rfl,show (((leN s 4 2:Nat):Int)==20)=decide (leN s 4 2=20) from eqI _ 20,show (((leN s 6 2:Nat):Int)==0)=decide (leN s 6 2=0) from eqI _ 0,show (((leN s 28 2:Nat):Int)==0)=decide (leN s 28 2=0) from eqI _ 0,eqI]
 by_cases hd:leN s 0 4=67324752∧leN s 4 2=20∧leN s 6 2=0∧leN s 28 2=0
 ·rw [decide_eq_true hd.1,decide_eq_true hd.2.1,decide_eq_true hd.2.2.1,decide_eq_true hd.2.2.2]
  simp only [cond_true,Zaa,Bool.not_true,cond_false]
  rw [decide_eq_false (show ¬((leN s 26 2:Nat):Int)<0 by omega),decide_eq_false (show ¬((leN s 18 4:Nat):Int)<0 by omega)]
  simp only [cond_false,Zaa]
  rw [Zaf (n:=30+((leN s 26 2:Nat):Int)) (by omega) (by omega),Zaf (n:=30+((leN s 26 2:Nat):Int)+((leN s 18 4:Nat):Int)) (by omega) (by omega),show 30+((leN s 26 2:Nat):Int)+((leN s 18 4:Nat):Int)=((30+leN s 26 2+leN s 18 4:Nat):Int) by omega,show 30+((leN s 26 2:Nat):Int)=((30+leN s 26 2:Nat):Int) by omega]
  by_cases hbig:s.length<30+leN s 26 2+leN s 18 4
  ·have hno:Zgs s=none:=by unfold Zgs;rw [if_neg h30,if_pos hbig]
   rw [decide_eq_true (by omega),cond_true]
   refine .pure ?_
   unfold Zpp
   rw [hno]
  rw [decide_eq_false (by omega),cond_false,Zab _ (by simp;omega),Zab _ (by simp;omega),Zxw _ (by omega)]
  simp only [Zaa]
  rw [Zab _ (by simp;omega),Zab _ (by simp;omega),Int.toNat_natCast,Int.toNat_natCast]
  have hbody:(s.take (30+leN s 26 2+leN s 18 4)).drop (30+leN s 26 2)=(s.drop (30+leN s 26 2)).take (leN s 18 4):=by
   rw [List.drop_take];congr 1;omega
  have hname:(s.take (30+leN s 26 2)).drop 30=(s.drop 30).take (leN s 26 2):=by
   rw [List.drop_take];congr 1;omega
  have hnl:((s.drop 30).take (leN s 26 2)).length=leN s 26 2:=by rw [List.length_take,List.length_drop];omega
  have hbl:((s.drop (30+leN s 26 2)).take (leN s 18 4)).length=leN s 18 4:=by rw [List.length_take,List.length_drop];omega
  rw [hbody,hname]
  have htx:∃(t:Str) (b:Bool),ZfW ((leN s 8 2:Nat):Int) ((s.drop (30+leN s 26 2)).take (leN s 18 4))=some (t,b)∧t.length≤1048576∧ZuT (leN s 8 2) ((s.drop (30+leN s 26 2)).take (leN s 18 4))=if b then some t else none:=by
   unfold ZfW ZuT
   by_cases c0:leN s 8 2=0
   ·rw [c0,if_pos rfl]
    exact ⟨_,true,rfl,by rw [hbl];omega,rfl⟩
   rw [show (((leN s 8 2:Nat):Int)==0)=false by simp only [beq_eq_false_iff_ne,ne_eq];omega,cond_false,if_neg c0,ZmU]
   have hle:=Zq2 ((s.drop (30+leN s 26 2)).take (leN s 18 4))
   generalize ZgA ((s.drop (30+leN s 26 2)).take (leN s 18 4))=R at hle
   obtain ⟨t,n,ok⟩:=R
   dsimp only at hle
   simp only [Zaa]
   rw [show (((leN s 8 2:Nat):Int)==8)=decide (leN s 8 2=8) from eqI _ 8]
   by_cases c8:leN s 8 2=8
   ·rw [if_pos c8,decide_eq_true c8]
    cases ok with
    | false=>exact ⟨t,false,rfl,by omega,by rw [if_neg (by simp)];rfl⟩
    | true=>
     by_cases hn:n=((((s.drop (30+leN s 26 2)).take (leN s 18 4)).length:Nat):Int)
     ·exact ⟨t,true,by simp [hn],by omega,by rw [if_pos ⟨rfl,hn⟩];rfl⟩
     ·refine ⟨t,false,?_,by omega,by rw [if_neg (fun e=>hn e.2)];rfl⟩
      rw [beq_false_of_ne hn];rfl
   ·rw [if_neg c8,decide_eq_false c8]
    cases ok<;>exact ⟨t,false,rfl,by omega,rfl⟩
  obtain ⟨t,b,e,htl,hun⟩:=htx
  rw [e]
  simp only [Zaa]
  rw [Znl t (by omega)]
  simp only [Zaa]
  rw [eqI,eqI]
  have hloc:Zgs s=match (if b then some t else none) with
    | none=>none
    | some t=>if ZrW s t then
     some (((s.drop 30).take (leN s 26 2),((stG (leN s 10 4)).y:Int),((stG (leN s 10 4)).mo:Int),((stG (leN s 10 4)).d:Int),((stG (leN s 10 4)).h:Int),((stG (leN s 10 4)).mi:Int),((stG (leN s 10 4)).sec:Int),t),30+leN s 26 2+leN s 18 4)
     else none:=by
   unfold Zgs;rw [if_neg h30,if_neg hbig,hun]<;>cases b<;>rfl
  cases b with
  | false=>
   simp only [cond_false,Zaa]
   refine .pure ?_
   unfold Zpp
   rw [hloc]
   rfl
  | true=>
   simp only [if_true] at hloc
   simp only [cond_true]
   by_cases hc:leN s 14 4=Zpu t∧leN s 22 4=t.length
   ·rw [decide_eq_true hc.1,decide_eq_true hc.2]
    simp only [cond_true,Zaa]
    rw [Zf8 _ (by omega)]
    simp only [Zaa]
    refine .pure ?_
    unfold Zpp
    rw [hloc]
    by_cases hC:ZrW s t
    ·rw [if_pos hC]
     show _=_
     have h1:=hC.1
     have h2:=hC.2.1
     have h3:=hC.2.2.1
     rw [h1,h2,decide_eq_true h3]
     rfl
    ·rw [if_neg hC]
     show (Zdu ((s.drop 30).take (leN s 26 2))&&(stM (stG (leN s 10 4)).y (stG (leN s 10 4)).mo (stG (leN s 10 4)).d (stG (leN s 10 4)).h (stG (leN s 10 4)).mi (stG (leN s 10 4)).sec&&decide (t.length≤300)))=false
     cases hn:Zdu ((s.drop 30).take (leN s 26 2)) with
     | false=>rfl
     | true=>
      cases hst:stM (stG (leN s 10 4)).y (stG (leN s 10 4)).mo (stG (leN s 10 4)).d (stG (leN s 10 4)).h (stG (leN s 10 4)).mi (stG (leN s 10 4)).sec with
      | false=>rfl
      | true=>
       by_cases h3:t.length≤300
       ·exact absurd ⟨hn,hst,h3,hd.1,hd.2.1,hd.2.2.1,hd.2.2.2,hc.1,hc.2⟩ hC
       ·rw [decide_eq_false h3];rfl
   ·have hC:¬ZrW s t:=fun q=>hc ⟨q.2.2.2.2.2.2.2.1,q.2.2.2.2.2.2.2.2⟩
    rw [if_neg hC] at hloc
    have e2:(bif decide (leN s 14 4=Zpu t) then some (decide (leN s 22 4=t.length)) else some false)=some false:=by
     by_cases h1:leN s 14 4=Zpu t
     ·rw [decide_eq_true h1,decide_eq_false (fun q=>hc ⟨h1,q⟩)];rfl
     ·rw [decide_eq_false h1];rfl
    rw [e2]
    simp only [Zaa,cond_false]
    refine .pure ?_
    unfold Zpp
    rw [hloc]
 ·have hh:(bif decide (leN s 0 4=67324752) then bif decide (leN s 4 2=20) then bif decide (leN s 6 2=0) then some (decide (leN s 28 2=0)) else some false else some false else some false)=some false:=by
   by_cases a1:leN s 0 4=67324752
   ·by_cases a2:leN s 4 2=20
    ·by_cases a3:leN s 6 2=0
     ·rw [decide_eq_true a1,decide_eq_true a2,decide_eq_true a3,decide_eq_false (fun a4=>hd ⟨a1,a2,a3,a4⟩)];rfl
     ·rw [decide_eq_true a1,decide_eq_true a2,decide_eq_false a3];rfl
    ·rw [decide_eq_true a1,decide_eq_false a2];rfl
   ·rw [decide_eq_false a1];rfl
  rw [hh]
  simp only [Zaa,Bool.not_false,cond_true]
  refine .pure ?_
  unfold Zpp
  have hno:Zgs s=none:=by
   unfold Zgs
   rw [if_neg h30]
   split
   ·rfl
   ·split
    ·rfl
    ·rw [if_neg (fun q=>hd ⟨q.2.2.2.1,q.2.2.2.2.1,q.2.2.2.2.2.1,q.2.2.2.2.2.2.1⟩)]
  rw [hno]
end Ev
end
section
namespace Ev
open Go
def ZfL (a b:Str):Bool:=decide (a.length<b.length)&&((b.take a.length==a)&&(b.getD a.length 0==47))
def pre (s p:Str):Bool:=decide (p.length≤s.length)&&(s.take p.length==p)
theorem ZjU (a b:Str):Zdf a b=some (ZfL a b):=by
 unfold Zdf ZfL
 simp only [ZhA,gt_iff_lt,Int.toNat_natCast]
 by_cases h:a.length<b.length
 ·rw [if_pos (by omega),Zab _ (Zh9 (by omega)),Zab _ (Zax h),decide_eq_true h]
  have hb:=Zww (b.getD a.length 0) 47 (by decide)
  rw [show ((47:Nat):Int)=47 from rfl] at hb
  rw [hb,show UInt8.ofNat 47=47 from rfl]
  cases (b.take a.length==a)<;>rfl
 ·rw [if_neg (by omega),decide_eq_false h];rfl
theorem ZqT (s p:Str):ZcB s p=some (pre s p):=by
 unfold ZcB Zcx pre
 simp only [ZhA,ge_iff_le,Int.toNat_natCast]
 by_cases h:p.length≤s.length
 ·rw [if_pos (by omega),Zab _ (Zh9 h),decide_eq_true h];rfl
 ·rw [if_neg (by omega),decide_eq_false h];rfl
theorem ZiI (a b:Str):pre b (a++[47])=ZfL a b:=by
 unfold pre ZfL
 rw [Bool.eq_iff_iff]
 simp only [Bool.and_eq_true,decide_eq_true_eq,beq_iff_eq,List.length_append,List.length_singleton]
 constructor
 ·rintro ⟨h1,h2⟩
  have h3:a.length<b.length:=by omega
  rw [List.take_succ_eq_append_getElem h3] at h2
  obtain ⟨e1,e2⟩:=List.append_inj h2 (by simp;omega)
  refine ⟨h3,e1,?_⟩
  simp at e2
  simp [List.getD,h3,e2]
 ·rintro ⟨h1,h2,h3⟩
  refine ⟨by omega,?_⟩
  rw [List.take_succ_eq_append_getElem h1,h2]
  have:b[a.length]=47:=by simpa [List.getD,h1] using h3
  rw [this]
theorem ZtI (a:Str):ZfL a a=false:=by unfold ZfL;simp
end Ev
end
section
namespace Ev
open Go
def hit (a b:Str):Bool:=a==b||(pre a (b++[47])||pre b (a++[47]))
theorem Zx2 (names u:List Str) (a:Str) (t3:List Str) (t4 t5:Int) (ha:a.length≤1048576) (hu:∀b,b∈u→b.length≤1048576) (hul:u.length≤1048576):∀k j,j+k=u.length→
  Zc7.l0 (k+1) (names,a,t3,t4,t5,u,(u.length:Int),(j:Int))=some (if (u.drop j).all (fun b=>!hit a b) then .inl (names,t3,t4,t5) else .inr (.inr false)):=by
 intro k
 induction k with
 | zero=>
  intro j hj
  rw [Zc7.l0.succ]
  simp only [Zc7.l0.step]
  rw [ZaZ (by omega),List.drop_eq_nil_of_le (by omega)]
  rfl
 | succ k ih=>
  intro j hj
  have hjl:j<u.length:=by omega
  have hd:u.drop j=u[j]::u.drop (j+1):=List.drop_eq_getElem_cons hjl
  have hg:u.getD j []=u[j]:=by simp [List.getD,hjl]
  have hm:=hu u[j] (List.getElem_mem hjl)
  rw [Zc7.l0.succ]
  simp only [Zc7.l0.step,Int.toNat_natCast,ZqT,Option.bind_some,hg]
  rw [Zab _ (Zax hjl),ZaY hjl,cond_true,Zab _ (Ze2 (by simp;omega)),Zab _ (Ze2 (by simp;omega)),Zdx (by omega),ih (j+1) (by omega),hd,List.all_cons,hit]
  cases (a==u[j])<;>cases pre a (u[j]++[47])<;>cases pre u[j] (a++[47])<;>rfl
theorem Zx1 (names:List Str) (hn:names.length≤1048576) (hx:∀b,b∈names→b.length≤1048576):∀k i,i+k=names.length→
  Zc7.l1 (k+1) (names,names,(names.length:Int),(i:Int))=some (if (List.range' i k).all (fun i=>(names.take i).all (fun b=>!hit (names.getD i []) b)) then .inl () else .inr false):=by
 intro k
 induction k with
 | zero=>
  intro i hi
  rw [Zc7.l1.succ]
  simp only [Zc7.l1.step]
  rw [ZaZ (by omega)]
  rfl
 | succ k ih=>
  intro i hi
  have hil:i<names.length:=by omega
  have hg:names.getD i []=names[i]:=by simp [List.getD,hil]
  rw [Zc7.l1.succ]
  simp only [Zc7.l1.step,Int.toNat_natCast]
  rw [Zab _ (Zax hil),Zab _ (Zh9 (by omega)),ZaY hil,cond_true,ZaJ]
  have h0:=Zx2 names (names.take i) (names.getD i []) names (names.length:Int) (i:Int) (by rw [hg];exact hx _ (List.getElem_mem hil)) (fun b hb=>hx b (List.mem_of_mem_take hb)) (by simp;omega) (names.take i).length 0 (by omega)
  rw [show ((0:Nat):Int)=0 from rfl,List.drop_zero] at h0
  rw [h0,List.range'_succ,List.all_cons]
  cases (names.take i).all (fun b=>!hit (names.getD i []) b) with
  | false=>rfl
  | true=>
   simp only [if_true,Option.bind_some,Bool.true_and]
   rw [Zdx (by omega)]
   exact ih (i+1) (by omega)
theorem Zx3 (names:List Str) (hn:names.length≤1048576) (hx:∀b,b∈names→b.length≤1048576):Zc7 names=some ((List.range names.length).all (fun i=>(names.take i).all (fun b=>!hit (names.getD i []) b))):=by
 unfold Zc7
 have h:=Zx1 names hn hx names.length 0 (by omega)
 rw [show ((0:Nat):Int)=0 from rfl] at h
 rw [ZaJ,h,List.range_eq_range']
 cases (List.range' 0 names.length).all (fun i=>(names.take i).all (fun b=>!hit (names.getD i []) b))<;>rfl
end Ev
end
section
namespace Ev
open Go
def Fil.z:Fil:=([],0,0,0,0,0,0,[])
def Zcb (e:Fil):Bool:=Zdu e.1&&(stM e.2.1 e.2.2.1 e.2.2.2.1 e.2.2.2.2.1 e.2.2.2.2.2.1 e.2.2.2.2.2.2.1&&decide (e.2.2.2.2.2.2.2.length≤300))
theorem Zsp (es:List Fil) (hn:es.length≤1048576) (hx:∀e∈es,e.1.length≤1048576):∀(j i:Nat),i+j=es.length→
  Zdz.l0 (j+1) (es,es,(es.length:Int),(i:Int))=some (if (es.drop i).all Zcb then .inl es else .inr false)
 | 0,i,h=>by
  rw [Zdz.l0.succ];simp only [Zdz.l0.step]
  rw [ZaZ (by omega),List.drop_eq_nil_of_le (by omega)];rfl
 | j+1,i,h=>by
  have hi:i<es.length:=by omega
  rw [Zdz.l0.succ];simp only [Zdz.l0.step]
  rw [ZaY hi,cond_true,Zab _ ZaB,Int.toNat_natCast,show es.getD i ([],0,0,0,0,0,0,[])=es[i] from Zal hi,Zj8 _ (hx _ (List.getElem_mem hi)),Zaf (by omega) (by omega),show (i:Int)+1=((i+1:Nat):Int) by omega,
   Zsp es hn hx j (i+1) (by omega),List.drop_eq_getElem_cons hi,List.all_cons]
  simp only [Zaa]
  have e:(Zdu es[i].1&&(stM es[i].2.1 es[i].2.2.1 es[i].2.2.2.1 es[i].2.2.2.2.1 es[i].2.2.2.2.2.1 es[i].2.2.2.2.2.2.1&&decide (es[i].2.2.2.2.2.2.2.length≤300)))=Zcb es[i]:=rfl
  rw [e]
  cases Zcb es[i]<;>rfl
theorem ZnB (es:List Fil) (hn:es.length≤1048576):∀(j i:Nat) (out:List Str),i+j=es.length→out.length=i→
  Zb4.l0 (j+1) (es,(es.length:Int),(i:Int),out)=some (out++(es.drop i).map Prod.fst)
 | 0,i,out,h,ho=>by
  rw [Zb4.l0.succ];simp only [Zb4.l0.step]
  rw [ZaZ (by omega),List.drop_eq_nil_of_le (by omega)];simp
 | j+1,i,out,h,ho=>by
  have hi:i<es.length:=by omega
  rw [Zb4.l0.succ];simp only [Zb4.l0.step]
  rw [ZaY hi,cond_true,Zab _ ZaB,Int.toNat_natCast,show es.getD i ([],0,0,0,0,0,0,[])=es[i] from Zal hi,Zad (by simp;omega),Zaf (by omega) (by omega),show (i:Int)+1=((i+1:Nat):Int) by omega,
   ZnB es hn j (i+1) _ (by omega) (by simp [ho]),List.drop_eq_getElem_cons hi,List.map_cons,List.append_assoc]
  rfl
theorem Zt0 (es:List Fil) (hn:es.length≤1048576):Zb4 es=some (es.map Prod.fst):=by
 have h:=ZnB es hn es.length 0 [] (by omega) rfl
 rw [show ((0:Nat):Int)=0 from rfl,List.drop_zero,List.nil_append] at h
 unfold Zb4
 rw [ZaJ,h];rfl
def ZgE (names:List Str):Bool:=(List.range names.length).all fun i=>(names.take i).all fun b=>!hit (names.getD i []) b
def Zgh (es:List Fil):Bool:=es.all Zcb&&(decide (es.length≤6)&&ZgE (es.map Prod.fst))
theorem Zoq (es:List Fil) (hn:es.length≤1048576) (hx:∀e∈es,e.1.length≤1048576):Zdz es=some (Zgh es):=by
 have h:=Zsp es hn hx es.length 0 (by omega)
 rw [show ((0:Nat):Int)=0 from rfl,List.drop_zero] at h
 unfold Zdz Zgh
 rw [ZaJ,h]
 simp only [Zaa]
 cases es.all Zcb with
 | false=>rfl
 | true=>
  simp only [if_true,Bool.true_and]
  by_cases h6:es.length≤6
  ·rw [decide_eq_true (by omega),decide_eq_true h6,cond_true,Zt0 es hn]
   simp only [Zaa]
   rw [Zx3 _ (by simpa using hn) (fun b hb=>by obtain ⟨e,he,rfl⟩:=List.mem_map.1 hb;exact hx e he)]
   rfl
  ·rw [decide_eq_false (by omega),decide_eq_false h6];rfl
end Ev
end
section
namespace Ev
open Go
def Zhx (es:List Fil) (i:Nat) (n:Str):Bool:=(es.take i).all fun e=>!(e.1==n)
theorem ZvL (es:List Fil) (hn:es.length≤1048576) (i:Nat) (hi:i<es.length):∀(k j:Nat),j+k=i→(∀e∈es.take j,(e.1==(es.getD i Fil.z).1)=false)→∀F,k<F→
  ∃m:Nat,ZjV.l0 F (es,(es.getD i Fil.z).1,(j:Int))=some (.inr (m:Int))∧m≤i∧(m=i↔Zhx es i (es.getD i Fil.z).1=true)
 | 0,j,h,hj,0,hF=>absurd hF (by omega)
 | 0,j,h,hj,F+1,hF=>by
  have hji:j=i:=by omega
  subst hji
  refine ⟨j,?_,Nat.le_refl _,fun _=>?_,fun _=>rfl⟩
  ·rw [ZjV.l0.succ];simp only [ZjV.l0.step]
   rw [ZaY hi,cond_true,Zab _ ZaB,Int.toNat_natCast,show es.getD j ([],0,0,0,0,0,0,[])=es.getD j Fil.z from rfl,beq_self_eq_true,cond_true]
   rfl
  ·unfold Zhx
   rw [List.all_eq_true]
   intro e he
   rw [hj e he];rfl
 | k+1,j,h,hj,0,hF=>absurd hF (by omega)
 | k+1,j,h,hj,F+1,hF=>by
  have hlt:j<es.length:=by omega
  rw [ZjV.l0.succ];simp only [ZjV.l0.step]
  rw [ZaY hlt,cond_true,Zab _ ZaB,Int.toNat_natCast,show es.getD j ([],0,0,0,0,0,0,[])=es[j] from Zal hlt]
  cases hc:(es[j].1==(es.getD i Fil.z).1) with
  | true=>
   rw [cond_true]
   refine ⟨j,rfl,by omega,fun e=>by omega,fun e=>?_⟩
   exfalso
   unfold Zhx at e
   rw [List.all_eq_true] at e
   have hm:es[j]∈es.take i:=List.mem_take_iff_getElem.2 ⟨j,by omega,rfl⟩
   have:=e _ hm
   rw [hc] at this;cases this
  | false=>
   rw [cond_false,Zaf (by omega) (by omega),show (j:Int)+1=((j+1:Nat):Int) by omega]
   refine ZvL es hn i hi k (j+1) (by omega) (fun e he=>?_) F (by omega)
   rw [List.take_succ_eq_append_getElem hlt] at he
   rcases List.mem_append.1 he with he | he
   ·exact hj e he
   ·have:e=es[j]:=by simpa using he
    subst this;exact hc
theorem ZvK (es:List Fil) (hn:es.length≤1048576) (i:Nat) (hi:i<es.length):(ZjV es (es.getD i Fil.z).1).bind (fun m=>some (m != (i:Int)))=some (!Zhx es i (es.getD i Fil.z).1):=by
 obtain ⟨m,e,hm,hf⟩:=ZvL es hn i hi i 0 (by omega) (fun e he=>by simp at he) (es.length+1) (by omega)
 rw [show ((0:Nat):Int)=0 from rfl] at e
 unfold ZjV
 rw [ZaJ,e]
 simp only [Zaa]
 cases hfm:Zhx es i (es.getD i Fil.z).1 with
 | true=>rw [hf.2 hfm];simp
 | false=>
  have:m≠i:=fun e=>by rw [hf.1 e] at hfm;cases hfm
  simp;omega
theorem Zko (es:List Fil) (hn:es.length≤1048576) (i:Nat) (hi:i<es.length):∀(k j:Nat),j+k=es.length→
  Zau.l0 (k+1) (es,(i:Int),(j:Int))=some (if (es.drop j).all (fun q=>!ZfL (es.getD i Fil.z).1 q.1) then .inl (es,(i:Int)) else .inr (.inr false))
 | 0,j,h=>by
  rw [Zau.l0.succ];simp only [Zau.l0.step]
  rw [ZaZ (by omega),List.drop_eq_nil_of_le (by omega)];rfl
 | k+1,j,h=>by
  have hj:j<es.length:=by omega
  rw [Zau.l0.succ];simp only [Zau.l0.step]
  rw [ZaY hj,cond_true,Zab _ (Zax hi),Zab _ ZaB,Int.toNat_natCast,Int.toNat_natCast,show es.getD j ([],0,0,0,0,0,0,[])=es[j] from Zal hj,show es.getD i ([],0,0,0,0,0,0,[])=es.getD i Fil.z from rfl,ZjU,
   Zaf (by omega) (by omega),show (j:Int)+1=((j+1:Nat):Int) by omega,Zko es hn i hi k (j+1) (by omega),List.drop_eq_getElem_cons hj,List.all_cons]
  simp only [Zaa]
  cases ZfL (es.getD i Fil.z).1 es[j].1<;>rfl
def ZqV (es:List Fil) (i:Nat):Bool:=Zcb (es.getD i Fil.z)&&(Zhx es i (es.getD i Fil.z).1&&es.all fun q=>!ZfL (es.getD i Fil.z).1 q.1)
theorem Zkn (es:List Fil) (hn:es.length≤1048576) (hx:∀e∈es,e.1.length≤1048576):∀(k i:Nat),i+k=es.length→
  Zau.l1 (k+1) (es,(i:Int))=some (if (List.range' i k).all (ZqV es) then .inl es else .inr false)
 | 0,i,h=>by
  rw [Zau.l1.succ];simp only [Zau.l1.step]
  rw [ZaZ (by omega)];rfl
 | k+1,i,h=>by
  have hi:i<es.length:=by omega
  have hself:=ZvK es hn i hi
  have h0:=Zko es hn i hi es.length 0 (by omega)
  rw [show ((0:Nat):Int)=0 from rfl,List.drop_zero] at h0
  rw [Zau.l1.succ];simp only [Zau.l1.step]
  rw [ZaY hi,cond_true,Zab _ ZaB,Int.toNat_natCast,show es.getD i ([],0,0,0,0,0,0,[])=es.getD i Fil.z from rfl,Zf8 _ (by rw [Zal hi];exact hx _ (List.getElem_mem hi)),Zab _ ZaB,hself,ZaJ,h0,List.range'_succ,List.all_cons]
  simp only [Zaa]
  have e:(Zdu (es.getD i Fil.z).1&&(stM (es.getD i Fil.z).2.1 (es.getD i Fil.z).2.2.1 (es.getD i Fil.z).2.2.2.1 (es.getD i Fil.z).2.2.2.2.1 (es.getD i Fil.z).2.2.2.2.2.1 (es.getD i Fil.z).2.2.2.2.2.2.1&&decide ((es.getD i Fil.z).2.2.2.2.2.2.2.length≤300)))=Zcb (es.getD i Fil.z):=rfl
  have g:ZqV es i=(Zcb (es.getD i Fil.z)&&(Zhx es i (es.getD i Fil.z).1&&es.all fun q=>!ZfL (es.getD i Fil.z).1 q.1)):=rfl
  rw [e,g]
  cases Zcb (es.getD i Fil.z) with
  | false=>rfl
  | true=>
   cases Zhx es i (es.getD i Fil.z).1 with
   | false=>rfl
   | true=>
    cases es.all (fun q=>!ZfL (es.getD i Fil.z).1 q.1) with
    | false=>rfl
    | true=>
     simp only [Bool.not_true,cond_false,Zaa,if_true,Bool.true_and]
     rw [Zaf (by omega) (by omega),show (i:Int)+1=((i+1:Nat):Int) by omega]
     exact Zkn es hn hx k (i+1) (by omega)
theorem ZpK (es:List Fil) (hn:es.length≤1048576) (hx:∀e∈es,e.1.length≤1048576):Zau es=some ((List.range es.length).all (ZqV es)&&decide (es.length≤6)):=by
 have h:=Zkn es hn hx es.length 0 (by omega)
 rw [show ((0:Nat):Int)=0 from rfl,←List.range_eq_range'] at h
 unfold Zau
 rw [ZaJ,h]
 simp only [Zaa]
 cases (List.range es.length).all (ZqV es) with
 | false=>rfl
 | true=>
  simp only [if_true,Bool.true_and]
  congr 1
  by_cases h6:es.length≤6
  ·rw [decide_eq_true h6,decide_eq_true (by omega)]
  ·rw [decide_eq_false h6,decide_eq_false (by omega)]
end Ev
end
section
namespace Ev
open Go
theorem Zv2 (a b:Str):hit a b=false↔a≠b∧ZfL b a=false∧ZfL a b=false:=by
 unfold hit
 rw [ZiI,ZiI,Bool.or_eq_false_iff,Bool.or_eq_false_iff,beq_eq_false_iff_ne]
theorem Zqe {es:List Fil} {i:Nat} {e:Fil} (h:e∈es.take i):∃j,j<i∧j<es.length∧es.getD j Fil.z=e:=by
 obtain ⟨j,hj,rfl⟩:=List.getElem_of_mem h
 rw [List.length_take] at hj
 exact ⟨j,by omega,by omega,by rw [Zal (by omega),List.getElem_take]⟩
theorem ZpG {es:List Fil} {i j:Nat} (h1:j<i) (h2:j<es.length):es.getD j Fil.z∈es.take i:=by
 rw [Zal h2];exact List.mem_take_iff_getElem.2 ⟨j,by omega,rfl⟩
theorem Ztk (es:List Fil) (i:Nat):(es.map Prod.fst).getD i []=(es.getD i Fil.z).1:=by
 simp only [List.getD_eq_getElem?_getD,List.getElem?_map]
 cases es[i]?<;>rfl
theorem Zyo (es:List Fil):Zgh es=true↔(∀i,i<es.length→Zcb (es.getD i Fil.z)=true)∧es.length≤6∧∀i j,i<es.length→j<i→(es.getD i Fil.z).1≠(es.getD j Fil.z).1∧ZfL (es.getD j Fil.z).1 (es.getD i Fil.z).1=false∧ZfL (es.getD i Fil.z).1 (es.getD j Fil.z).1=false:=by
 unfold Zgh ZgE
 rw [Bool.and_eq_true,Bool.and_eq_true,List.all_eq_true,List.all_eq_true,decide_eq_true_eq]
 constructor
 ·rintro ⟨h1,h2,h3⟩
  refine ⟨fun i hi=>h1 _ (by rw [Zal hi];exact List.getElem_mem hi),h2,fun i j hi hj=>?_⟩
  have h:=h3 i (List.mem_range.2 (by simpa using hi))
  rw [List.all_eq_true] at h
  have:=h (es.getD j Fil.z).1 (by rw [←List.map_take];exact List.mem_map.2 ⟨_,ZpG hj (by omega),rfl⟩)
  rw [Ztk,Bool.not_eq_true',Zv2] at this
  exact this
 ·rintro ⟨h1,h2,h3⟩
  refine ⟨fun e he=>?_,h2,fun i hi=>?_⟩
  ·obtain ⟨i,hi,rfl⟩:=List.getElem_of_mem he
   have:=h1 i hi
   rwa [Zal hi] at this
  ·have hi:i<es.length:=by simpa using List.mem_range.1 hi
   rw [List.all_eq_true]
   intro b hb
   rw [←List.map_take] at hb
   obtain ⟨e,he,rfl⟩:=List.mem_map.1 hb
   obtain ⟨j,hj,_,rfl⟩:=Zqe he
   rw [Ztk,Bool.not_eq_true',Zv2]
   exact h3 i j hi hj
theorem ZxH (es:List Fil):((List.range es.length).all (ZqV es)&&decide (es.length≤6))=true↔(∀i,i<es.length→Zcb (es.getD i Fil.z)=true)∧es.length≤6∧∀i j,i<es.length→j<i→(es.getD i Fil.z).1≠(es.getD j Fil.z).1∧ZfL (es.getD j Fil.z).1 (es.getD i Fil.z).1=false∧ZfL (es.getD i Fil.z).1 (es.getD j Fil.z).1=false:=by
 rw [Bool.and_eq_true,List.all_eq_true,decide_eq_true_eq]
 have un:∀i,ZqV es i=true→Zcb (es.getD i Fil.z)=true∧Zhx es i (es.getD i Fil.z).1=true∧∀q∈es,ZfL (es.getD i Fil.z).1 q.1=false:=fun i h=>by
  unfold ZqV at h
  rw [Bool.and_eq_true,Bool.and_eq_true,List.all_eq_true] at h
  exact ⟨h.1,h.2.1,fun q hq=>by have:=h.2.2 q hq;rwa [Bool.not_eq_true'] at this⟩
 constructor
 ·rintro ⟨h1,h2⟩
  refine ⟨fun i hi=>(un i (h1 i (List.mem_range.2 hi))).1,h2,fun i j hi hj=>⟨fun e=>?_,?_,?_⟩⟩
  ·have h:=(un i (h1 i (List.mem_range.2 hi))).2.1
   unfold Zhx at h
   rw [List.all_eq_true] at h
   have:=h _ (ZpG hj (by omega))
   rw [←e,beq_self_eq_true] at this
   cases this
  ·exact (un j (h1 j (List.mem_range.2 (by omega)))).2.2 _ (by rw [Zal hi];exact List.getElem_mem hi)
  ·exact (un i (h1 i (List.mem_range.2 hi))).2.2 _ (by rw [Zal (by omega:j<es.length)];exact List.getElem_mem _)
 ·rintro ⟨h1,h2,h3⟩
  refine ⟨fun i hi=>?_,h2⟩
  have hi:=List.mem_range.1 hi
  unfold ZqV
  rw [Bool.and_eq_true,Bool.and_eq_true,List.all_eq_true]
  refine ⟨h1 i hi,?_,fun q hq=>?_⟩
  ·unfold Zhx
   rw [List.all_eq_true]
   intro e he
   obtain ⟨j,hj,_,rfl⟩:=Zqe he
   rw [Bool.not_eq_true',beq_eq_false_iff_ne]
   exact fun e=>(h3 i j hi hj).1 e.symm
  ·obtain ⟨j,hj,rfl⟩:=List.getElem_of_mem hq
   rw [Bool.not_eq_true',←Zal (d:=Fil.z) hj]
   rcases Nat.lt_trichotomy i j with h | h | h
   ·exact (h3 j i hj h).2.1
   ·subst h;exact ZtI _
   ·exact (h3 i j hi h).2.2
theorem Zm8 (es:List Fil) (hn:es.length≤1048576) (hx:∀e∈es,e.1.length≤1048576):Zau es=some (Zgh es):=by
 rw [ZpK es hn hx]
 congr 1
 rw [Bool.eq_iff_iff,ZxH,Zyo]
end Ev
end
section
namespace Ev
open Go
def Ziw (l:Str) (a:Nat):Str:=leB 33639248 4++leB 20 2++(l.take 30).drop 4++leB 0 10++leB a 4++(l.take (30+leN l 26 2)).drop 30
def Zca:List Str→Nat→Str
 | [],_=>[]
 | l::r,a=>Ziw l a++Zca r (a+l.length)
def ZuM (many long a:Nat):Str:=leB 101010256 4++leB 0 4++leB many 2++leB many 2++leB long 4++leB a 4++leB 0 2
def Zfb (ls:List Str):Nat:=(ls.map List.length).sum
def Zd5 (ls:List Str):Str:=Zca ls 0++ZuM ls.length (Zca ls 0).length (Zfb ls)
def Zm6 (l:Str):Prop:=30+leN l 26 2≤l.length∧l.length≤1048576
theorem Zf0 (l:Str) (a:Nat) (h:Zm6 l):(Ziw l a).length=46+leN l 26 2:=by
 have:=h.1
 unfold Ziw
 simp only [List.length_append,ZaI,List.length_drop,List.length_take]
 omega
theorem Zo1 (ls:List Str) (h:∀l∈ls,Zm6 l):∀a,(Zca ls a).length≤1100000*ls.length:=by
 induction ls with
 | nil=>intro a;simp [Zca]
 | cons l r ih=>
  intro a
  have h1:=Zf0 l a (h l (by simp))
  have h2:=ih (fun x hx=>h x (by simp [hx])) (a+l.length)
  have:=(h l (by simp)).1
  have:=(h l (by simp)).2
  simp only [Zca,List.length_append,List.length_cons]
  omega
set_option maxRecDepth 100000 in
theorem Zog (ls:List Str) (hn:ls.length≤1000) (hL:∀l∈ls,Zm6 l):∀(j i:Nat) (heads:Str) (a:Nat),i+j=ls.length→heads.length≤2000000*i→a≤1048576*i→
  ZbD.l0 (j+1) (ls,heads,(a:Int),ls,(ls.length:Int),(i:Int))=some (ls,heads++Zca (ls.drop i) a,((a+Zfb (ls.drop i):Nat):Int))
 | 0,i,heads,a,h,hh,ha=>by
  rw [ZbD.l0.succ];simp only [ZbD.l0.step]
  rw [ZaZ (by omega),cond_false,List.drop_eq_nil_of_le (show ls.length≤i by omega)];simp [Zca,Zfb]
 | j+1,i,heads,a,h,hh,ha=>by
  have hi:i<ls.length:=by omega
  have hl:=hL ls[i] (List.getElem_mem hi)
  obtain ⟨hl1,hl2⟩:=hl
  have hc:=Zf0 ls[i] a ⟨hl1,hl2⟩
  have n26:=Zfw ls[i] 26 2 (by omega) (by omega) (by omega) (by omega)
  have m20:=Zcp 20 2 (by omega) (by omega)
  have m0:=Zcp 0 10 (by omega) (by omega)
  have ma:=Zcp a 4 (by omega) (by omega)
  rw [show ((26:Nat):Int)=26 from rfl,show ((2:Nat):Int)=2 from rfl] at n26
  rw [show ((20:Nat):Int)=20 from rfl,show ((2:Nat):Int)=2 from rfl] at m20
  rw [show ((0:Nat):Int)=0 from rfl,show ((10:Nat):Int)=10 from rfl] at m0
  rw [show ((4:Nat):Int)=4 from rfl] at ma
  have hm:([80,75,1,2]:Str)=leB 33639248 4:=by decide
  have ih:=Zog ls hn hL j (i+1) (heads++Ziw ls[i] a) (a+ls[i].length) (by omega) (by rw [List.length_append];omega) (by omega)
  rw [ZbD.l0.succ];simp only [ZbD.l0.step]
  rw [ZaY hi,cond_true,Zab _ ZaB,Int.toNat_natCast,show ls.getD i []=ls[i] from Zal hi,n26,m20,m0,ma,hm]
  simp only [Zaa]
  rw [Zaf (n:=30+((leN ls[i] 26 2:Nat):Int)) (by omega) (by omega),show 30+((leN ls[i] 26 2:Nat):Int)=((30+leN ls[i] 26 2:Nat):Int) by omega,Int.toNat_natCast,
   Zaf (n:=(a:Int)+((ls[i].length:Nat):Int)) (by omega) (by omega),show (a:Int)+((ls[i].length:Nat):Int)=((a+ls[i].length:Nat):Int) by omega,Zaf (n:=(i:Int)+1) (by omega) (by omega),show (i:Int)+1=((i+1:Nat):Int) by omega]
  have hcm:((((leB 33639248 4++leB 20 2)++((ls[i].take 30).drop 4))++leB 0 10)++leB a 4)++((ls[i].take (30+leN ls[i] 26 2)).drop 30)=Ziw ls[i] a:=rfl
  have L:∀n k,(leB n k).length=k:=ZaI
  have l1:((ls[i].take 30).drop 4).length=26:=by rw [List.length_drop,List.length_take];omega
  have l2:((ls[i].take (30+leN ls[i] 26 2)).drop 30).length=leN ls[i] 26 2:=by rw [List.length_drop,List.length_take];omega
  rw [Zad (by simp only [L];omega),Zab _ (by simp;omega),Zab _ (by decide),Zad (by simp only [List.length_append,L,l1];omega),Zad (by simp only [List.length_append,L,l1];omega),Zad (by simp only [List.length_append,L,l1];omega),
   Zab _ (by simp;omega),Zab _ (by simp;omega),Zad (by simp only [List.length_append,L,l1,l2];omega),Zad (by rw [hcm,hc];omega),hcm,ih,List.drop_eq_getElem_cons hi]
  simp only [Zca,Zfb,List.map_cons,List.sum_cons,List.append_assoc,Nat.add_assoc]
theorem Zyt (ls:List Str) (h:∀l∈ls,Zm6 l):Zfb ls≤1048576*ls.length:=by
 induction ls with
 | nil=>simp [Zfb]
 | cons l r ih=>
  have h1:=(h l (by simp)).2
  have h2:=ih (fun x hx=>h x (by simp [hx]))
  simp only [Zfb,List.map_cons,List.sum_cons,List.length_cons] at h2 ⊢
  omega
theorem Zoh (ls:List Str) (hn:ls.length≤1000) (hL:∀l∈ls,Zm6 l):ZbD ls=some (Zd5 ls):=by
 have h:=Zog ls hn hL ls.length 0 [] 0 (by omega) (by simp) (by omega)
 rw [show ((0:Nat):Int)=0 from rfl,List.drop_zero,List.nil_append,Nat.zero_add] at h
 have hh:=Zo1 ls hL 0
 have hs:=Zyt ls hL
 have n1:=Zcp ls.length 2 (by omega) (by omega)
 have n2:=Zcp 0 4 (by omega) (by omega)
 have n3:=Zcp (Zca ls 0).length 4 (by omega) (by omega)
 have n4:=Zcp (Zfb ls) 4 (by omega) (by omega)
 have n5:=Zcp 0 2 (by omega) (by omega)
 rw [show ((2:Nat):Int)=2 from rfl] at n1
 rw [show ((0:Nat):Int)=0 from rfl,show ((4:Nat):Int)=4 from rfl] at n2
 rw [show ((4:Nat):Int)=4 from rfl] at n3 n4
 rw [show ((0:Nat):Int)=0 from rfl,show ((2:Nat):Int)=2 from rfl] at n5
 have L:∀n k,(leB n k).length=k:=ZaI
 have hm:([80,75,5,6]:Str)=leB 101010256 4:=by decide
 unfold ZbD
 rw [ZaJ,h]
 simp only [Zaa]
 rw [n1,n2,n3,n4,n5,hm]
 simp only [Zaa]
 rw [Zad (by simp only [L];omega),Zad (by simp only [List.length_append,L];omega),Zad (by simp only [List.length_append,L];omega),Zad (by simp only [List.length_append,L];omega),Zad (by simp only [List.length_append,L];omega),
  Zad (by simp only [List.length_append,L];omega),Zad (by simp only [List.length_append,L];omega)]
 unfold Zd5 ZuM
 simp only [List.append_assoc]
end Ev
end
section
namespace Ev
open Go
theorem ZfB {s:Str} {e:Fil} {n:Nat} (h:Zgs s=some (e,n)):n=30+leN s 26 2+leN s 18 4∧n≤s.length∧e.1=(s.drop 30).take (leN s 26 2):=by
 unfold Zgs at h
 split at h
 ·cases h
 ·split at h
  ·cases h
  ·split at h
   ·cases h
   ·split at h
    ·obtain ⟨rfl,rfl⟩:=Prod.mk.inj (Option.some.inj h)
     exact ⟨rfl,by omega,rfl⟩
    ·cases h
theorem ZoQ (s:Str) (n a k:Nat) (h:a+k≤n):leN (s.take n) a k=leN s a k:=by
 unfold leN
 rw [List.drop_take,List.take_take,Nat.min_eq_left (by omega)]
theorem ZrV {s:Str} {e:Fil} {n:Nat} (h:Zgs s=some (e,n)) (hs:s.length≤1048576):Zm6 (s.take n)∧e.1.length≤1048576:=by
 obtain ⟨h1,h2,h3⟩:=ZfB h
 refine ⟨⟨?_,by rw [List.length_take];omega⟩,by rw [h3,List.length_take,List.length_drop];omega⟩
 rw [ZoQ s n 26 2 (by omega),List.length_take];omega
def Za7:Nat→Str→List Fil×List Str×Str
 | 0,s=>([],[],s)
 | k+1,s=>match Zgs s with
  | none=>([],[],s)
  | some (e,n)=>(e::(Za7 k (s.drop n)).1,s.take n::(Za7 k (s.drop n)).2.1,(Za7 k (s.drop n)).2.2)
def Zev (s:Str):Option (List Fil):=if Zgh (Za7 6 s).1=true∧(Za7 6 s).2.2=Zd5 (Za7 6 s).2.1 then some (Za7 6 s).1 else none
theorem ZiH:∀(k:Nat) (s:Str),s.length≤1048576→(Za7 k s).1.length≤k∧(Za7 k s).2.1.length≤k∧(∀e∈(Za7 k s).1,e.1.length≤1048576)∧∀l∈(Za7 k s).2.1,Zm6 l
 | 0,s,hs=>by simp [Za7]
 | k+1,s,hs=>by
  rw [Za7]
  cases h:Zgs s with
  | none=>simp
  | some p=>
   obtain ⟨e,n⟩:=p
   have h1:=ZrV h hs
   obtain ⟨q1,q2,q3,q4⟩:=ZiH k (s.drop n) (by rw [List.length_drop];omega)
   refine ⟨by simp;omega,by simp;omega,fun x hx=>?_,fun x hx=>?_⟩
   ·rcases List.mem_cons.1 hx with rfl | hx
    ·exact h1.2
    ·exact q3 x hx
   ·rcases List.mem_cons.1 hx with rfl | hx
    ·exact h1.1
    ·exact q4 x hx
theorem Zpx:∀(k:Nat) (s:Str) (out:List Fil) (ls:List Str),s.length≤1048576→out.length+k=6→ls.length≤6→
  ls.length=out.length→Zcv.l0 (k+1) (s,out,ls)=some ((Za7 k s).2.2,out++(Za7 k s).1,ls++(Za7 k s).2.1)
 | 0,s,out,ls,hs,h,hl,he=>by
  rw [Zcv.l0.succ];simp only [Zcv.l0.step]
  rw [decide_eq_false (by omega),cond_false];simp [Za7]
 | k+1,s,out,ls,hs,h,hl,he=>by
  rw [Zcv.l0.succ];simp only [Zcv.l0.step]
  rw [decide_eq_true (by omega),cond_true,ZrT s hs,Za7]
  simp only [Zaa]
  cases hm:Zgs s with
  | none=>simp [Zyb]
  | some p=>
   obtain ⟨e,n⟩:=p
   have h1:=ZfB hm
   unfold Zyb
   dsimp only
   rw [Bool.not_true,cond_false,Zad (by simp;omega),Zab _ (by simp;omega),Zad (by simp;omega),Int.toNat_natCast,Zab _ (by simp;omega),
    Zpx k (s.drop n) _ _ (by rw [List.length_drop];omega) (by simp;omega) (by simp;omega) (by simp;omega)]
   simp
def zipZ:Option (List Fil)→Bool×List Fil
 | none=>(false,[])
 | some es=>(true,es)
theorem Zpy (s:Str) (hs:s.length≤1048576):Zcv s=some (zipZ (Zev s)):=by
 have h:=Zpx 6 s [] [] hs rfl (by simp) rfl
 obtain ⟨q1,q2,q3,q4⟩:=ZiH 6 s hs
 unfold Zcv
 rw [List.length_nil,show ((6-((0:Nat):Int)).toNat+1)=6+1 from rfl,h]
 simp only [Zaa,List.nil_append]
 rw [Zoq _ (by omega) q3]
 simp only [Zaa]
 unfold Zev
 cases hz:Zgh (Za7 6 s).1 with
 | false=>
  rw [if_neg (by simp)];rfl
 | true=>
  simp only [Bool.not_true,cond_false]
  rw [Zoh _ (by omega) q4]
  simp only [Zaa]
  by_cases hc:(Za7 6 s).2.2=Zd5 (Za7 6 s).2.1
  ·rw [if_pos ⟨trivial,hc⟩,hc,beq_self_eq_true];rfl
  ·rw [if_neg (fun q=>hc q.2),beq_false_of_ne hc];rfl
end Ev
end
section
namespace Ev
open Go
theorem ZsY (many long a:Nat) (h1:many≤100000) (h2:long≤1000000000000) (h3:a≤1000000000000):Zha (many:Int) (long:Int) (a:Int)=some (ZuM many long a):=by
 have n1:=Zbe many 2 (by omega) (by omega)
 have n2:=Zbe 0 2 (by omega) (by omega)
 have n3:=Zbe long 4 (by omega) (by omega)
 have n4:=Zbe a 4 (by omega) (by omega)
 have n5:=Zbe 101010256 4 (by omega) (by omega)
 rw [show ((2:Nat):Int)=2 from rfl] at n1
 rw [show ((0:Nat):Int)=0 from rfl,show ((2:Nat):Int)=2 from rfl] at n2
 rw [show ((4:Nat):Int)=4 from rfl] at n3 n4
 rw [show ((101010256:Nat):Int)=101010256 from rfl,show ((4:Nat):Int)=4 from rfl] at n5
 have L:∀n k,(leB n k).length=k:=ZaI
 have z:leB 0 4=leB 0 2++leB 0 2:=by decide
 unfold Zha
 rw [n1,n2,n3,n4,n5]
 simp only [Zaa]
 rw [Zad (by simp only [L];omega),Zad (by simp only [List.length_append,L];omega),Zad (by simp only [List.length_append,L];omega),Zad (by simp only [List.length_append,L];omega),Zad (by simp only [List.length_append,L];omega),
  Zad (by simp only [List.length_append,L];omega),Zad (by simp only [List.length_append,L];omega)]
 unfold ZuM
 rw [z]
 simp only [List.append_assoc]
theorem ZfG (many long a:Nat):(ZuM many long a).length=22:=by
 unfold ZuM;simp only [List.length_append,ZaI]
theorem ZvD {s:Str} (h:leN s 0 4≠67324752):Zgs s=none:=by
 unfold Zgs
 split
 ·rfl
 ·split
  ·rfl
  ·split
   ·rfl
   ·rw [if_neg (fun q=>h q.2.2.2.1)]
theorem ZrZ (n k:Nat) (r:Str) (hn:n<256^k):leN (leB n k++r) 0 k=n:=by
 unfold leN
 rw [List.drop_zero,List.take_append_of_le_length (by rw [ZaI];exact Nat.le_refl _),List.take_of_length_le (by rw [ZaI];exact Nat.le_refl _),ZrY,Nat.mod_eq_of_lt hn]
theorem Zmz (ls:List Str) (a m lo at_:Nat):Zgs (Zca ls a++ZuM m lo at_)=none:=by
 apply ZvD
 cases ls with
 | nil=>
  unfold ZuM Zca
  simp only [List.nil_append,List.append_assoc]
  rw [ZrZ _ _ _ (by omega)];omega
 | cons l r=>
  unfold Zca Ziw
  simp only [List.append_assoc]
  rw [ZrZ _ _ _ (by omega)];omega
end Ev
end
section
namespace Ev
open Go
def sub (s:Str) (i j:Nat):Str:=(s.take j).drop i
def Zie (s:Str) (h a:Nat):Prop:=h+46+leN s (h+28) 2≤s.length∧a+30+leN s (h+28) 2≤s.length∧
 sub s (h+6) (h+32)=sub s (a+4) (a+30)∧sub s (h+46) (h+(46+leN s (h+28) 2))=sub s (a+30) (a+30+leN s (h+28) 2)∧
 sub s h (h+6)=leB 33639248 4++leB 20 2∧sub s (h+32) (h+46)=leB 0 10++leB a 4
set_option maxRecDepth 100000 in
theorem ZvJ (s:Str) (hs:s.length≤1048576) (h a:Nat) (hh:h≤2000000) (ha:a≤2000000) :
  Ret (ZfV s (h:Int) (a:Int)) fun r=>(r.2=true↔Zie s h a)∧(Zie s h a→r.1=((46+leN s (h+28) 2:Nat):Int)):=by
 unfold ZfV
 have two:=Zgt s (h+28) 2
 have q:=ZoR s (h+28) 2 (by omega) (by omega) (by omega) (by omega)
 rw [show ((2:Nat):Int)=2 from rfl] at q
 rw [Zaf (n:=(h:Int)+28) (by omega) (by omega),show (h:Int)+28=((h+28:Nat):Int) by omega,q]
 simp only [Zaa]
 by_cases c30:h+28+2≤s.length
 ·rw [if_pos c30,decide_eq_false (show ¬((leN s (h+28) 2:Nat):Int)<0 by omega),cond_false,
   Zaf (n:=46+((leN s (h+28) 2:Nat):Int)) (by omega) (by omega),Zaf (n:=(h:Int)+(46+((leN s (h+28) 2:Nat):Int))) (by omega) (by omega),Zaf (n:=(a:Int)+30) (by omega) (by omega),Zaf (n:=(a:Int)+30+((leN s (h+28) 2:Nat):Int)) (by omega) (by omega)]
  by_cases c1:h+46+leN s (h+28) 2≤s.length
  ·by_cases c2:a+30+leN s (h+28) 2≤s.length
   ·rw [decide_eq_false (by omega),cond_false,decide_eq_false (by omega)]
    simp only [Zaa,cond_false]
    have n1:=Zbe 33639248 4 (by omega) (by omega)
    have n2:=Zbe 20 2 (by omega) (by omega)
    have n3:=Zbe 0 10 (by omega) (by omega)
    have n4:=Zbe a 4 (by omega) (by omega)
    rw [show ((33639248:Nat):Int)=33639248 from rfl,show ((4:Nat):Int)=4 from rfl] at n1
    rw [show ((20:Nat):Int)=20 from rfl,show ((2:Nat):Int)=2 from rfl] at n2
    rw [show ((0:Nat):Int)=0 from rfl,show ((10:Nat):Int)=10 from rfl] at n3
    rw [show ((4:Nat):Int)=4 from rfl] at n4
    rw [n1,n2,n3,n4]
    simp only [Zaa]
    rw [Zaf (n:=(h:Int)+32) (by omega) (by omega),Zaf (n:=(h:Int)+6) (by omega) (by omega),Zaf (n:=(a:Int)+4) (by omega) (by omega),Zaf (n:=(h:Int)+46) (by omega) (by omega)]
    rw [show (h:Int)+32=((h+32:Nat):Int) by omega,show (h:Int)+6=((h+6:Nat):Int) by omega,show (a:Int)+4=((a+4:Nat):Int) by omega,show (h:Int)+46=((h+46:Nat):Int) by omega,show (a:Int)+30+((leN s (h+28) 2:Nat):Int)=((a+30+leN s (h+28) 2:Nat):Int) by omega,
     show (a:Int)+30=((a+30:Nat):Int) by omega,show (h:Int)+(46+((leN s (h+28) 2:Nat):Int))=((h+(46+leN s (h+28) 2):Nat):Int) by omega]
    simp only [Int.toNat_natCast]
    have L:∀n k,(leB n k).length=k:=ZaI
    repeat rw [Zab _ (by simp;omega)]
    repeat rw [Zad (by simp only [L];omega)]
    repeat rw [Zab _ (by simp;omega)]
    repeat rw [Zad (by simp only [L];omega)]
    repeat rw [Zab _ (by simp;omega)]
    have hH:Zie s h a↔(((sub s (h+6) (h+32)==sub s (a+4) (a+30))=true∧(sub s (h+46) (h+(46+leN s (h+28) 2))==sub s (a+30) (a+30+leN s (h+28) 2))=true)∧
      (sub s h (h+6)==leB 33639248 4++leB 20 2)=true∧(sub s (h+32) (h+46)==leB 0 10++leB a 4)=true):=by
     unfold Zie
     simp only [beq_iff_eq]
     constructor
     ·rintro ⟨_,_,q1,q2,q3,q4⟩;exact ⟨⟨q1,q2⟩,q3,q4⟩
     ·rintro ⟨⟨q1,q2⟩,q3,q4⟩;exact ⟨c1,c2,q1,q2,q3,q4⟩
    rw [hH]
    unfold sub
    generalize (((s.take (h+32)).drop (h+6))==((s.take (a+30)).drop (a+4)))=b1
    generalize (((s.take (h+(46+leN s (h+28) 2))).drop (h+46))==((s.take (a+30+leN s (h+28) 2)).drop (a+30)))=b2
    generalize (((s.take (h+6)).drop h)==leB 33639248 4++leB 20 2)=b3
    generalize (((s.take (h+46)).drop (h+32))==leB 0 10++leB a 4)=b4
    cases b1<;>cases b2<;>cases b3<;>cases b4<;>refine ⟨(46+((leN s (h+28) 2:Nat):Int),_),rfl,by simp,fun _=>by first | omega | (dsimp only;omega)⟩
   ·rw [decide_eq_false (by omega),cond_false,decide_eq_true (by omega)]
    exact ⟨_,rfl,⟨fun q=>absurd q (by simp),fun q=>absurd q.2.1 c2⟩,fun q=>absurd q.2.1 c2⟩
  ·rw [decide_eq_true (by omega),cond_true]
   exact ⟨_,rfl,⟨fun q=>absurd q (by simp),fun q=>absurd q.1 c1⟩,fun q=>absurd q.1 c1⟩
 ·rw [if_neg c30]
  have hz:¬Zie s h a:=fun q=>by have:=q.1;omega
  exact ⟨_,rfl,⟨fun q=>absurd q (by simp),fun q=>absurd q hz⟩,fun q=>absurd q hz⟩
end Ev
end
section
namespace Ev
open Go
def ZeA:Nat→Str→Option (List Fil×List Str)
 | 0,_=>some ([],[])
 | k+1,s=>match Zgs s with
  | none=>none
  | some (e,n)=>(ZeA k (s.drop n)).map fun p=>(e::p.1,s.take n::p.2)
theorem ZsX (s:Str) (hs:s.length≤1048576) (K:Nat) (hK:K≤1000):∀(k i a:Nat) (out:List Fil),i+k=K→a≤s.length→out.length=i→
  Ret (ZeR.l0 (k+1) (s,(K:Int),(a:Int),(i:Int),out)) fun r=>match ZeA k (s.drop a) with
   | some (es,ls)=>r=.inl (((a+Zfb ls:Nat):Int),out++es)
   | none=>∃a' o',r=.inr (a',false,o')
 | 0,i,a,out,h,ha,ho=>by
  rw [ZeR.l0.succ];simp only [ZeR.l0.step]
  rw [ZaZ (by omega)]
  exact .pure (by simp [ZeA,Zfb])
 | k+1,i,a,out,h,ha,ho=>by
  rw [ZeR.l0.succ];simp only [ZeR.l0.step]
  obtain ⟨r,er,hp⟩:=Zqx (s.drop a) (by rw [List.length_drop];omega)
  rw [ZaY (by omega),cond_true,Zab _ (by simp;omega),Int.toNat_natCast,er,ZeA]
  simp only [Zaa]
  unfold Zpp at hp
  cases hm:Zgs (s.drop a) with
  | none=>
   rw [hm] at hp
   dsimp only at hp
   rw [hp]
   exact .pure ⟨_,_,rfl⟩
  | some p=>
   obtain ⟨e,n⟩:=p
   rw [hm] at hp
   have hsp:=ZfB hm
   rw [List.length_drop] at hsp
   subst hp
   unfold Zyb
   dsimp only
   rw [Bool.not_true,cond_false,Zad (by simp;omega),Zaf (n:=(a:Int)+(n:Int)) (by omega) (by omega),show (a:Int)+(n:Int)=((a+n:Nat):Int) by omega,Zaf (by omega) (by omega),show (i:Int)+1=((i+1:Nat):Int) by omega]
   refine (ZsX s hs K hK k (i+1) (a+n) _ (by omega) (by omega) (by simp;omega)).mono ?_
   intro r hr
   rw [List.drop_drop]
   cases hk:ZeA k (s.drop (a+n)) with
   | none=>rw [hk] at hr;exact hr
   | some q=>
    obtain ⟨es,ls⟩:=q
    rw [hk] at hr
    dsimp only [Option.map_some]
    have hln:((s.drop a).take n).length=n:=by rw [List.length_take,List.length_drop];omega
    rw [hr]
    simp [Zfb,hln,Nat.add_assoc]
end Ev
end
section
namespace Ev
open Go
theorem ZhZ (s:Str) (i j:Nat):sub s i j=(s.drop i).take (j-i):=by unfold sub;rw [List.drop_take]
theorem Zgk (s:Str) {i j k:Nat} (h1:i≤j) (h2:j≤k):sub s i k=sub s i j++sub s j k:=by
 rw [ZhZ,ZhZ,ZhZ,show k-i=(j-i)+(k-j) by omega,List.take_add,List.drop_drop,show i+(j-i)=j by omega]
theorem ZjA (s:Str) {i j p q:Nat} (h:i+p+q≤j):((sub s i j).drop p).take q=sub s (i+p) (i+p+q):=by
 rw [ZhZ,ZhZ,List.drop_take,List.take_take,List.drop_drop,Nat.min_eq_left (by omega),show i+p+q-(i+p)=q by omega]
theorem Zdl (s:Str) {i j:Nat} (h1:i≤j) (h2:j≤s.length):(sub s i j).length=j-i:=by
 rw [ZhZ,List.length_take,List.length_drop];omega
theorem ZjT (s:Str) (a k:Nat):leN s a k=leV (sub s a (a+k)):=by
 unfold leN;rw [ZhZ,show a+k-a=k by omega]
theorem ZkZ (s:Str) (a b k:Nat):leN (s.drop a) b k=leN s (a+b) k:=by
 unfold leN;rw [List.drop_drop]
theorem Zke (s:Str) (a n:Nat) (hn:30+leN s (a+26) 2≤n) :
  Ziw ((s.drop a).take n) a=(leB 33639248 4++leB 20 2)++(sub s (a+4) (a+30)++((leB 0 10++leB a 4)++sub s (a+30) (a+30+leN s (a+26) 2))):=by
 have e:leN ((s.drop a).take n) 26 2=leN s (a+26) 2:=by rw [ZoQ _ _ _ _ (by omega),ZkZ]
 unfold Ziw
 rw [e]
 have p1:(((s.drop a).take n).take 30).drop 4=sub s (a+4) (a+30):=by
  rw [List.take_take,Nat.min_eq_left (by omega),List.drop_take,List.drop_drop,ZhZ,show a+30-(a+4)=30-4 by omega]
 have p2:(((s.drop a).take n).take (30+leN s (a+26) 2)).drop 30=sub s (a+30) (a+30+leN s (a+26) 2):=by
  rw [List.take_take,Nat.min_eq_left (by omega),List.drop_take,List.drop_drop,ZhZ];congr 1;omega
 rw [p1,p2]
 simp only [List.append_assoc]
theorem Zv5 (s:Str) (a h n:Nat) (hn:30+leN s (a+26) 2≤n) (ha:a+n≤s.length) :
  Zie s h a↔(s.drop h).take (46+leN s (a+26) 2)=Ziw ((s.drop a).take n) a:=by
 have L:∀n k,(leB n k).length=k:=ZaI
 rw [Zke s a n hn]
 have e0:(s.drop h).take (46+leN s (a+26) 2)=sub s h (h+(46+leN s (a+26) 2)):=by
  rw [ZhZ];congr 1;omega
 constructor
 ·rintro ⟨h1,h2,q1,q2,q3,q4⟩
  have e:leN s (h+28) 2=leN s (a+26) 2:=by
   rw [ZjT,ZjT]
   have r1:=ZjA s (i:=h+6) (j:=h+32) (p:=22) (q:=2) (by omega)
   have r2:=ZjA s (i:=a+4) (j:=a+30) (p:=22) (q:=2) (by omega)
   rw [q1,r2] at r1
   rw [show h+6+22=h+28 by omega,show a+4+22=a+26 by omega] at r1
   rw [r1]
  rw [e] at h1 h2 q2
  rw [e0,Zgk s (i:=h) (j:=h+6) (by omega) (by omega),Zgk s (i:=h+6) (j:=h+32) (by omega) (by omega),Zgk s (i:=h+32) (j:=h+46) (by omega) (by omega),q1,q2,q3,q4]
 ·intro q
  have hl:((s.drop h).take (46+leN s (a+26) 2)).length=46+leN s (a+26) 2:=by
   rw [q]
   simp only [List.length_append,L]
   rw [Zdl s (by omega) (by omega),Zdl s (by omega) (by omega)]
   omega
  rw [List.length_take,List.length_drop] at hl
  have hb:h+46+leN s (a+26) 2≤s.length:=by omega
  rw [e0,Zgk s (i:=h) (j:=h+6) (by omega) (by omega),Zgk s (i:=h+6) (j:=h+32) (by omega) (by omega),Zgk s (i:=h+32) (j:=h+46) (by omega) (by omega)] at q
  obtain ⟨q3,q⟩:=List.append_inj q (by rw [Zdl s (by omega) (by omega)];simp only [List.length_append,L];omega)
  obtain ⟨q1,q⟩:=List.append_inj q (by rw [Zdl s (by omega) (by omega),Zdl s (by omega) (by omega)];omega)
  obtain ⟨q4,q2⟩:=List.append_inj q (by rw [Zdl s (by omega) (by omega)];simp only [List.length_append,L];omega)
  have e:leN s (h+28) 2=leN s (a+26) 2:=by
   rw [ZjT,ZjT]
   have r1:=ZjA s (i:=h+6) (j:=h+32) (p:=22) (q:=2) (by omega)
   have r2:=ZjA s (i:=a+4) (j:=a+30) (p:=22) (q:=2) (by omega)
   rw [q1,r2] at r1
   rw [show h+6+22=h+28 by omega,show a+4+22=a+26 by omega] at r1
   rw [r1]
  unfold Zie
  rw [e]
  exact ⟨hb,by omega,q1,q2,q3,q4⟩
def ZhE (s:Str):List Str→Nat→Nat→Prop
 | [],_,_=>True
 | l::r,h,a=>Zie s h a∧ZhE s r (h+(46+leN l 26 2)) (a+l.length)
theorem ZpH {α:Type} (x p q:List α):x.take (p.length+q.length)=p++q↔x.take p.length=p∧(x.drop p.length).take q.length=q:=by
 rw [List.take_add]
 constructor
 ·intro e
  by_cases h:p.length≤x.length
  ·exact List.append_inj e (by rw [List.length_take];omega)
  ·have h1:=congrArg List.length e
   simp only [List.length_append,List.length_take,List.length_drop] at h1
   omega
 ·rintro ⟨e1,e2⟩;rw [e1,e2]
theorem Zqp {s:Str} {a n:Nat} {e:Fil} (h:Zgs (s.drop a)=some (e,n)):30+leN s (a+26) 2≤n∧n≤s.length-a∧((s.drop a).take n).length=n∧leN ((s.drop a).take n) 26 2=leN s (a+26) 2:=by
 obtain ⟨h1,h2,h3⟩:=ZfB h
 rw [List.length_drop] at h2
 rw [ZkZ] at h1
 refine ⟨by omega,h2,by rw [List.length_take,List.length_drop];omega,by rw [ZoQ _ _ _ _ (by omega),ZkZ]⟩
theorem ZpW:∀(k:Nat) (s:Str) {es:List Fil} {ls:List Str},ZeA k s=some (es,ls)→ls.length=k∧es.length=k
 | 0,s,es,ls,h=>by
  obtain ⟨rfl,rfl⟩:=Prod.mk.inj (Option.some.inj h);exact ⟨rfl,rfl⟩
 | k+1,s,es,ls,h=>by
  rw [ZeA] at h
  cases hm:Zgs s with
  | none=>rw [hm] at h;cases h
  | some p=>
   obtain ⟨e,n⟩:=p
   rw [hm] at h
   dsimp only at h
   cases hk:ZeA k (s.drop n) with
   | none=>rw [hk] at h;cases h
   | some q=>
    rw [hk] at h
    obtain ⟨rfl,rfl⟩:=Prod.mk.inj (Option.some.inj h)
    have:=ZpW k (s.drop n) (es:=q.1) (ls:=q.2) hk
    simp [this.1,this.2]
theorem ZqQ (s:Str):∀(k:Nat) (a h:Nat) {es:List Fil} {ls:List Str},a≤s.length→ZeA k (s.drop a)=some (es,ls)→
  (ZhE s ls h a↔(s.drop h).take (Zca ls a).length=Zca ls a)
 | 0,a,h,es,ls,ha,hr=>by
  obtain ⟨rfl,rfl⟩:=Prod.mk.inj (Option.some.inj hr)
  simp [ZhE,Zca]
 | k+1,a,h,es,ls,ha,hr=>by
  rw [ZeA] at hr
  cases hm:Zgs (s.drop a) with
  | none=>rw [hm] at hr;cases hr
  | some p=>
   obtain ⟨e,n⟩:=p
   rw [hm] at hr
   dsimp only at hr
   obtain ⟨h1,h2,h3,h4⟩:=Zqp hm
   rw [List.drop_drop] at hr
   cases hk:ZeA k (s.drop (a+n)) with
   | none=>rw [hk] at hr;cases hr
   | some q=>
    obtain ⟨es',ls'⟩:=q
    rw [hk] at hr
    obtain ⟨rfl,rfl⟩:=Prod.mk.inj (Option.some.inj hr)
    have hc:(Ziw ((s.drop a).take n) a).length=46+leN s (a+26) 2:=by
     rw [Zke s a n h1]
     simp only [List.length_append,ZaI]
     rw [Zdl s (by omega) (by omega),Zdl s (by omega) (by omega)]
     omega
    have ih:=ZqQ s k (a+n) (h+(46+leN s (a+26) 2)) (by omega) hk
    unfold ZhE Zca
    rw [h3,h4,Zv5 s a h n h1 (by omega),ih,List.length_append,ZpH,hc,List.drop_drop]
theorem Zkv:∀(K:Nat) (s:Str),ZeA (Za7 K s).2.1.length s=some ((Za7 K s).1,(Za7 K s).2.1)∧(Za7 K s).2.2=s.drop (Zfb (Za7 K s).2.1)
 | 0,s=>by simp [Za7,ZeA,Zfb]
 | K+1,s=>by
  cases hm:Zgs s with
  | none=>simp [Za7,hm,ZeA,Zfb]
  | some p=>
   obtain ⟨e,n⟩:=p
   obtain ⟨h1,h2⟩:=Zkv K (s.drop n)
   obtain ⟨_,hn,_⟩:=ZfB hm
   have e1:Za7 (K+1) s=(e::(Za7 K (s.drop n)).1,s.take n::(Za7 K (s.drop n)).2.1,(Za7 K (s.drop n)).2.2):=by rw [Za7,hm]
   rw [e1]
   dsimp only
   rw [List.length_cons,ZeA,hm]
   dsimp only
   rw [h1]
   refine ⟨rfl,?_⟩
   rw [h2,List.drop_drop]
   simp only [Zfb,List.map_cons,List.sum_cons,List.length_take]
   congr 1;omega
theorem Zkw:∀(k:Nat) (s:Str) {es:List Fil} {ls:List Str},ZeA k s=some (es,ls)→∀K,k≤K→Zgs (s.drop (Zfb ls))=none→Za7 K s=(es,ls,s.drop (Zfb ls))
 | 0,s,es,ls,h,K,hK,hs=>by
  obtain ⟨rfl,rfl⟩:=Prod.mk.inj (Option.some.inj h)
  have hs:Zgs s=none:=by simpa [Zfb] using hs
  cases K with
  | zero=>simp [Za7,Zfb]
  | succ K=>simp [Za7,hs,Zfb]
 | k+1,s,es,ls,h,K,hK,hs=>by
  rw [ZeA] at h
  cases hm:Zgs s with
  | none=>rw [hm] at h;cases h
  | some p=>
   obtain ⟨e,n⟩:=p
   rw [hm] at h
   dsimp only at h
   cases hk:ZeA k (s.drop n) with
   | none=>rw [hk] at h;cases h
   | some q=>
    obtain ⟨es',ls'⟩:=q
    rw [hk] at h
    obtain ⟨rfl,rfl⟩:=Prod.mk.inj (Option.some.inj h)
    obtain ⟨_,hn,_⟩:=ZfB hm
    have es1:Zfb (s.take n::ls')=n+Zfb ls':=by
     simp only [Zfb,List.map_cons,List.sum_cons,List.length_take];omega
    obtain ⟨K,rfl⟩:∃K',K=K'+1:=⟨K-1,by omega⟩
    have ih:=Zkw k (s.drop n) hk K (by omega) (by rw [List.drop_drop,←es1];exact hs)
    rw [Za7,hm]
    dsimp only
    rw [ih,List.drop_drop,es1]
def Zu3 (s:Str):Option (List Fil):=
 if s.length<12 then none else if 6<leN s (s.length-12) 2 then none else
  match ZeA (leN s (s.length-12) 2) s with
  | none=>none
  | some (es,ls)=>if Zgh es=true∧s.drop (Zfb ls)=Zd5 ls then some es else none
theorem Zqu (x y:Str) (b k:Nat):leN (x++y) (x.length+b) k=leN y b k:=by
 unfold leN;rw [←List.drop_drop,List.drop_left]
theorem Zwj (many long a:Nat) (h:many<65536):leN (ZuM many long a) 10 2=many:=by
 have e:ZuM many long a=(leB 101010256 4++leB 0 4++leB many 2)++(leB many 2++(leB long 4++leB a 4++leB 0 2)):=by unfold ZuM;simp only [List.append_assoc]
 have:=Zqu (leB 101010256 4++leB 0 4++leB many 2) (leB many 2++(leB long 4++leB a 4++leB 0 2)) 0 2
 simp only [List.length_append,ZaI] at this
 rw [e,this,ZrZ _ _ _ (by omega)]
theorem ZwV (s:Str) (hs:s.length≤1048576):Zu3 s=Zev s:=by
 by_cases H:Zgh (Za7 6 s).1=true∧(Za7 6 s).2.2=Zd5 (Za7 6 s).2.1
 ·obtain ⟨h1,h2⟩:=Zkv 6 s
  obtain ⟨_,q2,_,_⟩:=ZiH 6 s hs
  unfold Zev
  rw [if_pos H]
  obtain ⟨H1,H2⟩:=H
  rw [h2] at H2
  have hl:=congrArg List.length H2
  unfold Zd5 at hl
  rw [List.length_drop,List.length_append,ZfG] at hl
  have hm:leN s (s.length-12) 2=(Za7 6 s).2.1.length:=by
   have e:s.length-12=Zfb (Za7 6 s).2.1+((Zca (Za7 6 s).2.1 0).length+10):=by omega
   rw [e,←ZkZ,H2]
   unfold Zd5
   rw [Zqu,Zwj _ _ _ (by omega)]
  unfold Zu3
  rw [if_neg (by omega),hm,if_neg (by omega),h1]
  dsimp only
  rw [if_pos ⟨H1,H2⟩]
 ·unfold Zev
  rw [if_neg H]
  unfold Zu3
  split
  ·rfl
  ·split
   ·rfl
   ·cases hk:ZeA (leN s (s.length-12) 2) s with
    | none=>rfl
    | some q=>
     obtain ⟨es,ls⟩:=q
     dsimp only
     split
     ·rename_i h6 hc
      exfalso
      have:=Zkw _ s hk 6 (by omega) (by rw [hc.2];exact Zmz _ _ _ _ _)
      rw [this] at H
      exact H hc
     ·rfl
end Ev
end
section
namespace Ev
open Go
theorem ZqR {s:Str} {h a:Nat} (q:Zie s h a):leN s (h+28) 2=leN s (a+26) 2:=by
 obtain ⟨h1,h2,q1,_⟩:=q
 rw [ZjT,ZjT]
 have r1:=ZjA s (i:=h+6) (j:=h+32) (p:=22) (q:=2) (by omega)
 have r2:=ZjA s (i:=a+4) (j:=a+30) (p:=22) (q:=2) (by omega)
 rw [q1,r2] at r1
 rw [show h+6+22=h+28 by omega,show a+4+22=a+26 by omega] at r1
 rw [r1]
theorem ZiE (s:Str) (hs:s.length≤1048576) (K:Nat) (hK:K≤1000) (at_:Int) (list:List Fil):∀(k i a h:Nat) {es:List Fil} {ls:List Str},i+k=K→a≤s.length→h≤s.length→ZeA k (s.drop a)=some (es,ls)→
  Ret (ZaW.l0 (k+1) (s,(K:Int),at_,(h:Int),(a:Int),(i:Int),list)) fun r=>
   (ZhE s ls h a→r=.inl (s,(K:Int),at_,((h+(Zca ls a).length:Nat):Int),list)∧h+(Zca ls a).length≤s.length)∧(¬ZhE s ls h a→r=.inr (false,[]))
 | 0,i,a,h,es,ls,hi,ha,hh,hr=>by
  obtain ⟨rfl,rfl⟩:=Prod.mk.inj (Option.some.inj hr)
  rw [ZaW.l0.succ];simp only [ZaW.l0.step]
  rw [ZaZ (by omega)]
  exact .pure ⟨fun _=>⟨by simp [Zca],by simpa [Zca] using hh⟩,fun q=>absurd trivial q⟩
 | k+1,i,a,h,es,ls,hi,ha,hh,hr=>by
  rw [ZeA] at hr
  cases hm:Zgs (s.drop a) with
  | none=>rw [hm] at hr;cases hr
  | some p=>
   obtain ⟨e,n⟩:=p
   rw [hm] at hr
   dsimp only at hr
   obtain ⟨h1,h2,h3,h4⟩:=Zqp hm
   rw [List.drop_drop] at hr
   cases hk:ZeA k (s.drop (a+n)) with
   | none=>rw [hk] at hr;cases hr
   | some q=>
    obtain ⟨es',ls'⟩:=q
    rw [hk] at hr
    obtain ⟨rfl,rfl⟩:=Prod.mk.inj (Option.some.inj hr)
    have hc:(Ziw ((s.drop a).take n) a).length=46+leN s (a+26) 2:=by
     rw [Zke s a n h1]
     simp only [List.length_append,ZaI]
     rw [Zdl s (by omega) (by omega),Zdl s (by omega) (by omega)]
     omega
    rw [ZaW.l0.succ];simp only [ZaW.l0.step]
    rw [ZaY (by omega),cond_true]
    refine .bind (ZvJ s hs h a (by omega) (by omega)) ?_
    rintro ⟨r3,r4⟩ ⟨g1,g2⟩
    dsimp only at g1 g2 ⊢
    cases r4 with
    | false=>
     have hn:¬Zie s h a:=fun q=>by have:=g1.2 q;cases this
     exact .pure ⟨fun q=>absurd q.1 hn,fun _=>rfl⟩
    | true=>
     have hH:=g1.1 rfl
     have g2:=g2 hH
     rw [ZqR hH] at g2
     have hb:=hH.1
     rw [ZqR hH] at hb
     subst g2
     rw [Bool.not_true,cond_false,Zab _ (by simp;omega),Int.toNat_natCast]
     obtain ⟨r,er,hp⟩:=Zqx (s.drop a) (by rw [List.length_drop];omega)
     unfold Zpp at hp
     rw [hm] at hp
     dsimp only at hp
     subst hp
     rw [er]
     unfold Zyb
     dsimp only
     simp only [Zaa]
     have two:=Zgt s (a+26) 2
     rw [Zaf (n:=(h:Int)+((46+leN s (a+26) 2:Nat):Int)) (by omega) (by omega),Zaf (n:=(a:Int)+(n:Int)) (by omega) (by omega),Zaf (n:=(i:Int)+1) (by omega) (by omega),
      show (h:Int)+((46+leN s (a+26) 2:Nat):Int)=((h+(46+leN s (a+26) 2):Nat):Int) by omega,show (a:Int)+(n:Int)=((a+n:Nat):Int) by omega,show (i:Int)+1=((i+1:Nat):Int) by omega]
     refine (ZiE s hs K hK at_ list k (i+1) (a+n) (h+(46+leN s (a+26) 2)) (by omega) (by omega) (by omega) hk).mono ?_
     rintro r ⟨f1,f2⟩
     unfold ZhE Zca
     rw [h3,h4,List.length_append,hc]
     refine ⟨fun q=>?_,fun q=>f2 fun q'=>q ⟨hH,q'⟩⟩
     obtain ⟨f,f'⟩:=f1 q.2
     exact ⟨by rw [f,Nat.add_assoc],by omega⟩
theorem ZpV:∀(k:Nat) (s:Str) {es:List Fil} {ls:List Str},ZeA k s=some (es,ls)→Zfb ls≤s.length∧(s.length≤1048576→∀e∈es,e.1.length≤1048576)∧(s.length≤1048576→∀l∈ls,Zm6 l)
 | 0,s,es,ls,h=>by
  obtain ⟨rfl,rfl⟩:=Prod.mk.inj (Option.some.inj h);simp [Zfb]
 | k+1,s,es,ls,h=>by
  rw [ZeA] at h
  cases hm:Zgs s with
  | none=>rw [hm] at h;cases h
  | some p=>
   obtain ⟨e,n⟩:=p
   rw [hm] at h
   dsimp only at h
   cases hk:ZeA k (s.drop n) with
   | none=>rw [hk] at h;cases h
   | some q=>
    obtain ⟨es',ls'⟩:=q
    rw [hk] at h
    obtain ⟨rfl,rfl⟩:=Prod.mk.inj (Option.some.inj h)
    obtain ⟨i1,i2,i3⟩:=ZpV k (s.drop n) hk
    obtain ⟨_,hn,_⟩:=ZfB hm
    rw [List.length_drop] at i1 i2 i3
    refine ⟨?_,fun hs=>?_,fun hs=>?_⟩
    ·simp only [Zfb,List.map_cons,List.sum_cons,List.length_take] at i1 ⊢;omega
    ·intro x hx
     rcases List.mem_cons.1 hx with rfl | hx
     ·exact (ZrV hm hs).2
     ·exact i2 (by omega) x hx
    ·intro x hx
     rcases List.mem_cons.1 hx with rfl | hx
     ·exact (ZrV hm hs).1
     ·exact i3 (by omega) x hx
theorem ZoB (s:Str) (hs:s.length≤1048576):ZaW s=some (zipZ (Zu3 s)):=by
 unfold ZaW Zu3
 by_cases c12:s.length<12
 ·have e:Zb2 s (w64 ((s.length:Int)-12)) 2=some (-1):=by
   rw [Zaf (by omega) (by omega)]
   unfold Zb2
   rw [decide_eq_true (by omega)];rfl
  rw [e,if_pos c12]
  rfl
 rw [if_neg c12,Zaf (n:=(s.length:Int)-12) (by omega) (by omega),show (s.length:Int)-12=((s.length-12:Nat):Int) by omega]
 have q:=ZoR s (s.length-12) 2 (by omega) (by omega) (by omega) (by omega)
 rw [show ((2:Nat):Int)=2 from rfl,if_pos (by omega)] at q
 have two:=Zgt s (s.length-12) 2
 rw [q]
 simp only [Zaa]
 generalize leN s (s.length-12) 2=m at two
 rw [Zk0]
 simp only [Zaa]
 by_cases c6:6<m
 ·rw [if_pos c6,decide_eq_false (by omega)];rfl
 rw [if_neg c6,decide_eq_true (by omega),Bool.not_true,cond_false]
 obtain ⟨r,er,hr⟩:=ZsX s hs m (by omega) m 0 0 [] (by omega) (by omega) rfl
 rw [show ((0:Nat):Int)=0 from rfl] at er
 rw [List.drop_zero] at hr
 unfold ZeR
 rw [ZaJ,er]
 simp only [Zaa]
 cases hk:ZeA m s with
 | none=>
  rw [hk] at hr
  dsimp only at hr
  obtain ⟨a',o',rfl⟩:=hr
  rfl
 | some p=>
  obtain ⟨es,ls⟩:=p
  rw [hk] at hr
  dsimp only at hr
  subst hr
  obtain ⟨i1,i2,i3⟩:=ZpV m s hk
  obtain ⟨n1,n2⟩:=ZpW m s hk
  dsimp only
  simp only [Zaa,Nat.zero_add,List.nil_append,Bool.not_true,cond_false]
  rw [Zm8 es (by omega) (i2 hs)]
  simp only [Zaa]
  cases hz:Zgh es with
  | false=>rw [if_neg (by simp)];rfl
  | true=>
   simp only [Bool.not_true,cond_false]
   obtain ⟨r,er,h1,h2⟩:=ZiE s hs m (by omega) ((Zfb ls:Nat):Int) es m 0 0 (Zfb ls) (by omega) (by omega) i1 (by rw [List.drop_zero];exact hk)
   rw [show ((0:Nat):Int)=0 from rfl] at er
   rw [er]
   simp only [Zaa]
   have hi:=ZqQ s m 0 (Zfb ls) (Nat.zero_le _) (by rw [List.drop_zero];exact hk)
   by_cases hH:ZhE s ls (Zfb ls) 0
   ·obtain ⟨rfl,hle⟩:=h1 hH
    have hH':=hi.1 hH
    dsimp only
    rw [Zab _ (by simp;omega),Zaf (by omega) (by omega),show (((Zfb ls+(Zca ls 0).length:Nat):Int)-((Zfb ls:Nat):Int))=(((Zca ls 0).length:Nat):Int) by omega,Int.toNat_natCast,ZsY m _ _ (by omega) (by omega) (by omega)]
    simp only [Zaa]
    have key:s.drop (Zfb ls)=Zd5 ls↔s.drop (Zfb ls+(Zca ls 0).length)=ZuM m (Zca ls 0).length (Zfb ls):=by
     unfold Zd5
     rw [n1,←List.drop_drop]
     constructor
     ·intro e;rw [e,List.drop_left' rfl]
     ·intro e
      rw [←List.take_append_drop (Zca ls 0).length (s.drop (Zfb ls)),hH',e]
    by_cases hc:s.drop (Zfb ls)=Zd5 ls
    ·rw [if_pos ⟨trivial,hc⟩,key.1 hc,beq_self_eq_true];rfl
    ·rw [if_neg (fun q=>hc q.2),beq_false_of_ne (fun q=>hc (key.2 q))];rfl
   ·obtain rfl:=h2 hH
    have hc:¬s.drop (Zfb ls)=Zd5 ls:=fun q=>hH (hi.2 (by rw [q];unfold Zd5;rw [List.take_left' rfl]))
    rw [if_neg (fun q=>hc q.2)]
    rfl
theorem ZoC (s:Str) (hs:s.length≤1048576):ZaW s=some (zipZ (Zev s)):=by rw [ZoB s hs,ZwV s hs]
def ZdX (s:Str):Bool:=(Zev s).isSome
theorem ZhT (s:Str) (hs:s.length≤1048576):ZcE s=some (ZdX s):=by
 unfold ZcE ZdX
 rw [Zpy s hs]
 cases Zev s<;>rfl
theorem ZiU (s:Str) (hs:s.length≤1048576):ZfC s=some (ZdX s):=by
 unfold ZfC ZdX
 rw [ZoC s hs]
 cases Zev s<;>rfl
def ZhW (text log:Str):Bool:=ZdX text&&(log==[])
theorem Zjc (text log:Str) (hs:text.length≤1048576):Zc4 text log=some (ZhW text log):=by
 unfold Zc4 ZhW
 rw [ZhT text hs]
 cases ZdX text<;>rfl
theorem ZgL (text log:Str) (hs:text.length≤1048576):Za9 text log=some (ZhW text log):=by
 unfold Za9 ZhW
 rw [ZiU text hs]
 cases ZdX text<;>rfl
end Ev
end
section
namespace Ev
open Go
def Tk.Pos (ls ds:List Nat):Tk→Prop
 | .lit c=>c<ls.length∧0<ls.getD c 0
 | .far l k=>(257+ZbN ZaA l<ls.length∧0<ls.getD (257+ZbN ZaA l) 0)∧ZbN ZaP k<ds.length∧0<ds.getD (ZbN ZaP k) 0
theorem Zgo (ns:List Nat) (hk:Zbs ns≤32768) (h15:∀n∈ns,n≤15) (i:Nat) (hi:i<ns.length) (h0:0<ns.getD i 0) (rest:List Bool):ZkD ns (some (ZiA ns i++rest))=some (i,rest):=by
 rw [Zys ns h15 i hi h0];exact Zvx ns hk h15 i hi h0 rest
theorem ZeI (k n:Nat) (rest:List Bool):ZbE k (some (ZbH n k++rest))=some rest:=by
 unfold ZbE
 dsimp only
 rw [if_pos (by rw [List.length_append,Zaj];omega),List.drop_left' (Zaj n k)]
theorem ZdQ (k n:Nat) (hn:n<2^k) (rest:List Bool):Zcn ((ZbH n k++rest).take k)=n:=by
 rw [List.take_left' (Zaj n k),Zld,Nat.mod_eq_of_lt hn]
theorem ZvB (ds:List Nat) (hkd:Zbs ds≤32768) (hd:∀n∈ds,n≤15) (go:List Bool→List Int→Option (List Bool×List Int)) (l k:Nat) (h:(Tk.far l k).Ok)
  (hp:ZbN ZaP k<ds.length∧0<ds.getD (ZbN ZaP k) 0) (out o:List Int) (rest:List Bool) (hf:Zpt out l k=some o) :
  ZnJ ds go (ZbN ZaA l) (ZbH (l-ZaA.getD (ZbN ZaA l) 0) (Zcq.getD (ZbN ZaA l) 0)++(ZiA ds (ZbN ZaP k)++(ZbH (k-ZaP.getD (ZbN ZaP k) 0) (Zc6.getD (ZbN ZaP k) 0)++rest))) out=go rest o:=by
 obtain ⟨h1,h2,h3,h4⟩:=h
 obtain ⟨_,_,a1,a2,a3⟩:=Zfa l h1 h2
 obtain ⟨_,_,b1,b2,b3⟩:=ZfO k h3 h4
 unfold ZnJ
 rw [ZeI,Zgo ds hkd hd _ hp.1 hp.2]
 dsimp only
 rw [if_neg (by omega),ZeI]
 dsimp only
 rw [ZdQ _ _ a3,ZdQ _ _ b3,show ZaA.getD (ZbN ZaA l) 0+(l-ZaA.getD (ZbN ZaA l) 0)=l by omega,show ZaP.getD (ZbN ZaP k) 0+(k-ZaP.getD (ZbN ZaP k) 0)=k by omega,hf]
theorem ZlK (ls ds:List Nat) (hkl:Zbs ls≤32768) (hkd:Zbs ds≤32768) (hl:∀n∈ls,n≤15) (hd:∀n∈ds,n≤15) (he:256<ls.length∧0<ls.getD 256 0) (s:Str) (hs:s.length≤300) (rest:List Bool) :
  ∀(F a f:Nat),a≤s.length→s.length≤a+F→(ZeN s F a).length<f→(∀t∈ZeN s F a,t.Pos ls ds)→ZsN ls ds f (Zfs ls ds (ZeN s F a)++rest) (ints (s.take a))=some (rest,ints s)
 | 0,a,f,ha,hF,hf,hp=>by
  obtain ⟨f',rfl⟩:∃f',f=f'+1:=⟨f-1,by omega⟩
  rw [Zgn]
  unfold Zqg
  rw [if_neg (by rw [ZdC,List.length_take];omega)]
  simp only [ZeN,Zfs]
  rw [Zgo ls hkl hl 256 he.1 he.2]
  dsimp only
  rw [if_pos rfl,List.take_of_length_le (by omega)]
 | F+1,a,f,ha,hF,hf,hp=>by
  obtain ⟨f',rfl⟩:∃f',f=f'+1:=⟨f-1,by omega⟩
  by_cases c:a<s.length
  ·have e:ZeN s (F+1) a=Zjq s a::ZeN s F (a+(Zjq s a).long):=by rw [ZeN,if_pos c]
   have hok:=ZkU s (F+1) a ha
   rw [e] at hf hp hok ⊢
   have hp0:=hp _ (List.mem_cons_self ..)
   have hp1:∀t∈ZeN s F (a+(Zjq s a).long),t.Pos ls ds:=fun t ht=>hp t (List.mem_cons_of_mem _ ht)
   have hok0:=hok _ (List.mem_cons_self ..)
   rw [List.length_cons] at hf
   have hlong:=Zlj s a
   rw [Zgn]
   unfold Zqg
   rw [if_neg (by rw [ZdC,List.length_take];omega),Zfs]
   cases ht:Zjq s a with
   | lit ch=>
    have hch:=Zst ht
    rw [ht] at hp0 hok0 hf hp1
    have hlt:ch<256:=hok0
    simp only [Zps,List.append_assoc]
    rw [Zgo ls hkl hl ch hp0.1 hp0.2]
    dsimp only
    rw [if_neg (by omega),if_pos hlt]
    have ih:=ZlK ls ds hkl hkd hl hd he s hs rest F (a+1) f' (by omega) (by omega) (by simpa [Tk.long] using hf) (by simpa [Tk.long] using hp1)
    have e1:ints (s.take (a+1))=ints (s.take a)++[(ch:Int)]:=by
     rw [Zjy s a 0 c,Zl4,hch];rfl
    rw [←e1]
    exact ih
   | far l k=>
    obtain ⟨g1,g2,g3,g4,g5,g6⟩:=Zsu ht ha
    rw [ht] at hp0 hok0 hf hp1
    obtain ⟨⟨q1,q2⟩,q3,q4⟩:=hp0
    obtain ⟨_,_,a1,_,_⟩:=Zfa l g1 g2
    simp only [Zps,List.append_assoc]
    rw [Zgo ls hkl hl _ q1 q2]
    dsimp only
    rw [if_neg (by omega),if_neg (by omega),if_neg (by omega),Nat.add_sub_cancel_left,ZvB ds hkd hd _ l k hok0 ⟨q3,q4⟩ _ _ _ g6]
    exact ZlK ls ds hkl hkd hl hd he s hs rest F (a+l) f' (by omega) (by omega) (by simpa [Tk.long] using hf) (by simpa [Tk.long] using hp1)
  ·have e:ZeN s (F+1) a=[]:=by rw [ZeN,if_neg c]
   rw [e,Zgn]
   unfold Zqg
   rw [if_neg (by rw [ZdC,List.length_take];omega)]
   simp only [Zfs]
   rw [Zgo ls hkl hl 256 he.1 he.2]
   dsimp only
   rw [if_pos rfl,List.take_of_length_le (by omega)]
theorem Zox (ns:List Nat) (i:Nat):(ZiA ns i).length=ns.getD i 0:=by
 unfold ZiA msb;rw [List.length_reverse,Zaj]
theorem ZpF (ls ds:List Nat) (he:0<ls.getD 256 0):∀ts:List Tk,(∀t∈ts,t.Pos ls ds)→ts.length+1≤(Zfs ls ds ts).length
 | [],_=>by rw [Zfs,Zox,List.length_nil];omega
 | t::r,h=>by
  have ih:=ZpF ls ds he r (fun x hx=>h x (List.mem_cons_of_mem _ hx))
  have h0:=h t (List.mem_cons_self ..)
  have:1≤(Zps ls ds t).length:=by
   cases t with
   | lit c=>rw [Zps,Zox];have:=h0.2;omega
   | far l k=>rw [Zps,List.length_append,Zox];have:=h0.1.2;omega
  rw [Zfs,List.length_append,List.length_cons];omega
theorem ZlS {ns:List Nat} (h:ZcZ ns=true):Zbs ns≤32768:=by
 unfold ZcZ at h
 simp only [Bool.and_eq_true,Bool.or_eq_true,decide_eq_true_eq] at h
 rcases h.2.2 with h | h
 ·omega
 ·omega
theorem ZnF (ls ds:List Nat) (h1:ZcZ ls=true) (h2:ZcZ ds=true) (he:256<ls.length∧0<ls.getD 256 0) (s:Str) (hs:s.length≤300) (hp:∀t∈ZhY s,t.Pos ls ds) (rest:List Bool) :
  ZhU ls ds (some (Zfs ls ds (ZhY s)++rest)) []=some (rest,ints s):=by
 have hl:=ZpF ls ds he.2 (ZhY s) hp
 unfold ZhU
 dsimp only
 rw [h1,h2,Bool.and_self,if_pos rfl]
 have:=ZlK ls ds (ZlS h1) (ZlS h2) (ZfT h1).2 (ZfT h2).2 he s hs rest s.length 0 ((Zfs ls ds (ZhY s)++rest).length+1) (Nat.zero_le _) (by omega) (by rw [List.length_append];unfold ZhY at hl;unfold ZhY;omega) hp
 exact this
theorem Zos:∀n,Zcn (List.replicate n false)=0
 | 0=>rfl
 | n+1=>by rw [List.replicate_succ,Zcn,Zos n];rfl
theorem Zua (z:Nat) (h:z<8):ZdN (some (List.replicate z false))=some []:=by
 unfold ZdN
 dsimp only
 rw [List.length_replicate,Nat.mod_eq_of_lt h,List.take_of_length_le (by simp),Zos,if_pos rfl,List.drop_eq_nil_of_le (by simp)]
theorem Zvz (b body:List Bool) (k:Nat) (hk:k<4) (o:List Int) (ho:o.length≤300) (hb:b=true::(ZbH k 2++body)) (h:∀rest,ZdV k (some (body++rest)) []=some (rest,o)) :
  Zt8 (Zhg b)=some (o,(Zhg b).length):=by
 subst hb
 unfold Zt8
 rw [Zrn]
 unfold ZhV
 generalize hz:(8-(true::(ZbH k 2++body)).length%8)%8=z
 have hz8:z<8:=by rw [←hz];exact Nat.mod_lt _ (by decide)
 rw [List.cons_append,mGo,Zgp,List.append_assoc,ZdQ 2 k (by omega),ZeI,h]
 simp only [Option.map_some,Option.bind_some]
 rw [if_neg (by omega),if_pos trivial]
 simp only [Option.bind_some]
 rw [Zua z hz8]
 simp
theorem ZyQ (t:Tk) (h:t.Ok):t.Pos Zmi Zm3:=by
 have hL:∀i,i<288→0<Zmi.getD i 0:=by decide +kernel
 have hD:∀i,i<32→0<Zm3.getD i 0:=by decide +kernel
 cases t with
 | lit c=>
  have h:c<256:=h
  exact ⟨by rw [ZcT];omega,hL c (by omega)⟩
 | far l k=>
  obtain ⟨h1,h2,h3,h4⟩:=h
  obtain ⟨_,_,a1,_,_⟩:=Zfa l h1 h2
  obtain ⟨_,_,b1,_,_⟩:=ZfO k h3 h4
  exact ⟨⟨by rw [ZcT];omega,hL _ (by omega)⟩,by rw [ZgV];omega,hD _ (by omega)⟩
theorem Zur:ZcZ Zmi=true:=by decide +kernel
theorem Zus:ZcZ Zm3=true:=by decide +kernel
theorem Zt7 (s:Str) (hs:s.length≤300):Zt8 (Zg7 s)=some (ints s,(Zg7 s).length):=by
 unfold Zg7
 refine Zvz (Zwc s) (Zfs Zmi Zm3 (ZhY s)) 1 (by omega) _ (by rw [ZdC];exact hs) ?_ fun rest=>?_
 ·unfold Zwc
  rw [List.append_assoc,show ZbH 1 1=[true] from rfl];rfl
 ·unfold ZdV
  rw [if_neg (by omega),if_pos rfl]
  exact ZnF Zmi Zm3 Zur Zus (by rw [ZcT];exact ⟨by omega,by decide +kernel⟩) s hs (fun t ht=>ZyQ t (Zf7 s t ht)) rest
theorem ZmD:∀s:Str,Zf1 s.length (Zdc s)=ints s
 | []=>rfl
 | c::r=>by
  rw [List.length_cons,Zf1,Zdc,List.take_left' (Zaj _ _),List.drop_left' (Zaj _ _),ZmD r,Zld,Nat.mod_eq_of_lt (by have:=c.toNat_lt;simpa using this)]
  rfl
theorem Zt6 (s:Str) (hs:s.length≤300):Zt8 (Zg3 s)=some (ints s,(Zg3 s).length):=by
 have hb:Zdc (Zg3 s)=Zn2++(ZbH s.length 16++(ZbH (65535-s.length) 16++Zdc s)):=by
  unfold Zg3
  rw [Zjl,ZgZ 5 (Zfu s.length) (by unfold Zfu;simp only [List.length_append,Zaj];rfl)]
  unfold Zfu
  simp only [List.append_assoc]
 have hlen:(Zdc s).length=8*s.length:=ZcO s
 unfold Zt8
 rw [hb]
 have h8:∀r:List Bool,Zn2++r=true::(ZbH 0 2++(List.replicate 5 false++r)):=fun r=>rfl
 rw [h8,mGo,Zgp,ZdQ 2 0 (by omega),ZeI]
 unfold ZdV
 rw [if_pos rfl]
 unfold Zfz ZdN
 dsimp only
 rw [show (List.replicate 5 false++(ZbH s.length 16++(ZbH (65535-s.length) 16++Zdc s))).length%8=5 by simp only [List.length_append,List.length_replicate,Zaj,hlen];omega,
  List.take_left' (List.length_replicate ..),Zos,if_pos rfl,List.drop_left' (List.length_replicate ..)]
 dsimp only
 rw [ZeI]
 dsimp only
 rw [ZeI]
 dsimp only
 rw [ZdQ 16 s.length (by omega),ZdQ 16 (65535-s.length) (by omega),if_neg (by omega)]
 simp only [Option.map_some,Option.bind_some,List.nil_append]
 rw [if_neg (by rw [Zfn];omega),if_pos trivial,ZmD,List.drop_eq_nil_of_le (by omega)]
 simp [Zcn]
end Ev
end
section
namespace Ev
open Go
theorem ZnH (M:List Nat) (h7:∀i,M.getD i 0≤7) (rest:List Bool):∀(is A:List Nat),ZgP is (Zep M is++rest) A=some (rest,is.foldl (fun A k=>A.set k (M.getD k 0)) A)
 | [],A=>rfl
 | k::r,A=>by
  have e:Zep M (k::r)=ZbH (M.getD k 0) 3++Zep M r:=by simp [Zep]
  have:=h7 k
  rw [e,List.append_assoc,ZgP,ZeI]
  dsimp only
  rw [ZdQ 3 _ (by omega),ZnH M h7 rest r]
  rfl
theorem ZtU (a0 a1 a2 a3 a4 a5 a6 a7 a8 a9 a10 a11 a12 a13 a14 a15 a16 a17 a18:Nat):ZaQ.foldl (fun A k=>A.set k ([a0,a1,a2,a3,a4,a5,a6,a7,a8,a9,a10,a11,a12,a13,a14,a15,a16,a17,a18].getD k 0)) (List.replicate 19 0)=[a0,a1,a2,a3,a4,a5,a6,a7,a8,a9,a10,a11,a12,a13,a14,a15,a16,a17,a18]:=by kernel_rfl
theorem Zvh (M:List Nat) (h:M.length=19):ZaQ.foldl (fun A k=>A.set k (M.getD k 0)) (List.replicate 19 0)=M:=by
 match M,h with
 | [a0,a1,a2,a3,a4,a5,a6,a7,a8,a9,a10,a11,a12,a13,a14,a15,a16,a17,a18],_=>exact ZtU a0 a1 a2 a3 a4 a5 a6 a7 a8 a9 a10 a11 a12 a13 a14 a15 a16 a17 a18
theorem Zqo (M:List Nat) (hk:Zbs M≤32768) (h15:∀n∈M,n≤15) (rest:List Bool) (n:Nat):∀(S all:List Nat) (f:Nat),(∀s∈S,s<M.length∧0<M.getD s 0∧s<16)→all.length+S.length=n→S.length<f→
  ZuL M n f (Zjs M S++rest) all=some (rest,all++S)
 | [],all,f,h,hn,hf=>by
  obtain ⟨f',rfl⟩:∃f',f=f'+1:=⟨f-1,by omega⟩
  rw [ZfA]
  unfold Zff
  rw [if_neg (by simp at hn;omega)]
  simp [Zjs]
 | s::r,all,f,h,hn,hf=>by
  obtain ⟨f',rfl⟩:∃f',f=f'+1:=⟨f-1,by omega⟩
  obtain ⟨h1,h2,h3⟩:=h s (List.mem_cons_self ..)
  rw [List.length_cons] at hn hf
  have e:Zjs M (s::r)=ZiA M s++Zjs M r:=by simp [Zjs]
  rw [ZfA]
  unfold Zff
  rw [if_pos (by omega),e,List.append_assoc,Zgo M hk h15 s h1 h2]
  dsimp only
  unfold Zxp
  rw [if_pos h3]
  simp only [Option.bind_some]
  rw [Zqo M hk h15 rest n r (all++[s]) f' (fun x hx=>h x (List.mem_cons_of_mem _ hx)) (by simp;omega) (by omega),List.append_assoc]
  rfl
theorem ZoO {ns:List Nat} (h1:ns.length≤300) (h2:∀n∈ns,n≤15) (h3:Zbs ns=32768∨ZeM ns=1∧Zbs ns=16384):ZcZ ns=true:=by
 unfold ZcZ
 simp only [Bool.and_eq_true,Bool.or_eq_true,decide_eq_true_eq,List.all_eq_true]
 exact ⟨h1,h2,h3⟩
theorem Zvy (ts:List Tk) (hO:ZhD ts) (rest:List Bool) :
  Zgr (some (ZbH ((Zd8 ts).length-257) 5++(ZbH ((Zet ts).length-1) 5++(ZbH 15 4++(Zep (ZfM ts) ZaQ++(Zjs (ZfM ts) (Zga ts)++rest))))))=some (Zd8 ts,Zet ts,rest):=by
 have l1:=hO.l1
 have l2:=hO.l2
 have d1:=hO.d1
 have d2:=hO.d2
 have hSl:(Zga ts).length=(Zd8 ts).length+(Zet ts).length:=by unfold Zga;rw [List.length_append]
 have h16:∀s∈Zga ts,s<16:=fun s hs=>by
  unfold Zga at hs
  rcases List.mem_append.1 hs with h | h
  ·have:=hO.l15 s h;omega
  ·have:=hO.d15 s h;omega
 have hML:ZcZ (ZfM ts)=true:=ZoO (by rw [hO.ml];omega) hO.m15 hO.m.ok
 unfold Zgr
 dsimp only
 rw [ZeI]
 dsimp only
 rw [ZeI]
 dsimp only
 rw [ZeI]
 dsimp only
 rw [ZdQ 5 _ (by omega),ZdQ 5 _ (by omega),ZdQ 4 15 (by omega)]
 unfold ZkE
 rw [show ZaQ.take (15+4)=ZaQ from rfl,ZnH (ZfM ts) hO.m7,Zvh _ hO.ml]
 dsimp only
 have hneg:¬(ZcZ (ZfM ts)=false∨286<(Zd8 ts).length-257+257∨30<(Zet ts).length-1+1):=by
  rintro (q | q | q)
  ·rw [hML] at q;cases q
  ·omega
  ·omega
 rw [if_neg hneg,show (Zd8 ts).length-257+257=(Zd8 ts).length by omega,show (Zet ts).length-1+1=(Zet ts).length by omega,
  Zqo (ZfM ts) hO.km hO.m15 rest ((Zd8 ts).length+(Zet ts).length) (Zga ts) [] _ (fun s hs=>⟨by rw [hO.ml];exact (hO.mpos s hs).2,(hO.mpos s hs).1,h16 s hs⟩) (by rw [hSl];simp) (by omega)]
 dsimp only
 rw [List.nil_append,if_pos hSl]
 unfold Zga
 rw [List.take_left' rfl,List.drop_left' rfl]
theorem ZhD.pos {ts:List Tk} (h:ZhD ts):∀t∈ts,t.Pos (Zd8 ts) (Zet ts):=fun t ht=>by
 cases t with
 | lit c=>have:=h.lpos c (List.mem_flatMap.2 ⟨_,ht,by simp [ZrX]⟩);exact ⟨this.2,this.1⟩
 | far l k=>
  have h1:=h.lpos (257+ZbN ZaA l) (List.mem_flatMap.2 ⟨_,ht,by simp [ZrX]⟩)
  have h2:=h.dpos (ZbN ZaP k) (List.mem_flatMap.2 ⟨_,ht,by simp [ZuF]⟩)
  exact ⟨⟨h1.2,h1.1⟩,h2.2,h2.1⟩
theorem Zxq (s:Str) (hs:s.length≤300):Zt8 (ZtT s)=some (ints s,(ZtT s).length):=by
 have hlen:(ZhY s).length≤300:=Nat.le_trans (Zfr s) hs
 have hO:=Zvd (ZhY s) (Zf7 s) hlen
 unfold ZtT
 refine Zvz (ownB (ZhY s)) (ZbH ((Zd8 (ZhY s)).length-257) 5++(ZbH ((Zet (ZhY s)).length-1) 5++(ZbH 15 4++(Zep (ZfM (ZhY s)) ZaQ++(Zjs (ZfM (ZhY s)) (Zga (ZhY s))++Zfs (Zd8 (ZhY s)) (Zet (ZhY s)) (ZhY s)))))) 2 (by omega) _ (by rw [ZdC];exact hs) ?_ fun rest=>?_
 ·unfold ownB Znx
  simp only [List.append_assoc,List.nil_append,show ZbH 1 1=[true] from rfl,List.cons_append]
 ·simp only [List.append_assoc]
  unfold ZdV
  rw [if_neg (by omega),if_neg (by omega),if_pos rfl,Zvy _ hO]
  dsimp only
  exact ZnF _ _ (ZoO (by have:=hO.l2;omega) hO.l15 hO.lk) (ZoO (by have:=hO.d2;omega) hO.d15 hO.dk) ⟨by have:=hO.l1;omega,hO.epos⟩ s hs hO.pos rest
theorem ZtA (s:Str):(Zg0 s).length≤s.length+5:=by
 have:=Zoz s
 unfold Zg0
 dsimp only
 split<;>split<;>omega
theorem ZvA (s:Str) (hs:s.length≤300):Zt8 (Zg0 s)=some (ints s,(Zg0 s).length):=by
 have h:Zg0 s=ZtT s∨Zg0 s=Zg7 s∨Zg0 s=Zg3 s:=by
  unfold Zg0
  dsimp only
  by_cases c1:(Zg7 s).length<(Zg3 s).length
  ·rw [if_pos c1];split
   ·exact .inl rfl
   ·exact .inr (.inl rfl)
  ·rw [if_neg c1];split
   ·exact .inl rfl
   ·exact .inr (.inr rfl)
 rcases h with h | h | h<;>rw [h]
 ·exact Zxq s hs
 ·exact Zt7 s hs
 ·exact Zt6 s hs
theorem Zsa (s:Str) (hs:s.length≤300):ZgA (Zg0 s)=(s,((Zg0 s).length:Int),true):=by
 have:=ZtA s
 unfold ZgA
 rw [if_neg (by omega),ZvA s hs]
 unfold ZxJ ints
 dsimp only
 rw [Zhe]
end Ev
end
section
namespace Ev
open Go
theorem Zrc (b:UInt8):∀s:Str,((Zbz b s).map fun p=>p.length+1).sum=s.length+1
 | []=>rfl
 | c::s=>by
  have ih:=Zrc b s
  simp only [Zbz]
  split
  ·rw [List.map_cons,List.sum_cons,ih,List.length_cons,List.length_nil];omega
  ·cases hc:Zbz b s with
   | nil=>exact absurd hc (ZeK b s)
   | cons p r=>
    rw [hc] at ih
    simp only [List.map_cons,List.sum_cons,List.length_cons] at ih ⊢
    omega
theorem Zfo {α:Type} (f:α→Nat) (k:Nat):∀l:List α,(∀x∈l,f x≤k)→(l.map f).sum≤k*l.length
 | [],_=>by simp
 | x::l,h=>by
  have h1:=h x (List.mem_cons_self ..)
  have h2:=Zfo f k l (fun y hy=>h y (List.mem_cons_of_mem _ hy))
  rw [List.map_cons,List.sum_cons,List.length_cons,Nat.mul_add];omega
theorem ZcY {s:Str} (h:Zdu s=true):1≤s.length∧s.length≤43:=by
 unfold Zdu at h
 rw [Bool.and_eq_true,List.all_eq_true,decide_eq_true_eq] at h
 obtain ⟨h1,h2⟩:=h
 have hs:=Zrc 47 s
 have hp:∀p∈Zbz 47 s,1≤p.length∧p.length≤10:=fun p hp=>by
  have:=h1 p hp
  unfold part at this
  simp only [Bool.and_eq_true,decide_eq_true_eq] at this
  exact this.2.1
 have hm:=Zfo (fun p:Str=>p.length+1) 11 (Zbz 47 s) (fun p h=>by have:=hp p h;omega)
 refine ⟨?_,by omega⟩
 cases hc:Zbz 47 s with
 | nil=>exact absurd hc (ZeK 47 s)
 | cons p r=>
  have:=(hp p (by rw [hc];exact List.mem_cons_self ..)).1
  rw [hc,List.map_cons,List.sum_cons] at hs
  omega
abbrev Fil.txt (e:Fil):Str:=e.2.2.2.2.2.2.2
def Zeo (text:Str):Nat×Str:=if (Zg0 text).length<text.length then (8,Zg0 text) else (0,text)
def stF (e:Fil):Nat:=stN e.2.1.toNat e.2.2.1.toNat e.2.2.2.1.toNat e.2.2.2.2.1.toNat e.2.2.2.2.2.1.toNat e.2.2.2.2.2.2.1.toNat
def ZvF (e:Fil):Str:=ZqS (Zeo e.txt).1 (stF e) (Zpu e.txt) (Zeo e.txt).2.length e.txt.length e.1.length
def Zg5 (e:Fil):Str:=ZvF e++(e.1++(Zeo e.txt).2)
theorem Zc9 (a b c d e f:Nat):(ZqS a b c d e f).length=30:=by
 unfold ZqS;simp only [List.length_append,ZaI]
theorem ZiK (t:Str):(Zeo t).2.length≤t.length∧(Zeo t).1≤8:=by
 unfold Zeo
 split
 ·exact ⟨by dsimp only;omega,by dsimp only;omega⟩
 ·exact ⟨Nat.le_refl _,by dsimp only;omega⟩
theorem unpM_8 (body t:Str) (h:ZgA body=(t,(body.length:Int),true)):ZuT 8 body=some t:=by
 unfold ZuT
 rw [h,if_neg (by omega),if_pos rfl]
 exact if_pos ⟨rfl,rfl⟩
theorem unpM_0 (body:Str):ZuT 0 body=some body:=by
 unfold ZuT;rw [if_pos rfl]
theorem Zw8 (t:Str) (ht:t.length≤300):ZuT (Zeo t).1 (Zeo t).2=some t:=by
 have h8:=unpM_8 (Zg0 t) t (Zsa t ht)
 have h0:=unpM_0 t
 unfold Zeo
 generalize Zg0 t=b at h8 ⊢
 split
 ·exact h8
 ·exact h0
theorem ZgS (e:Fil):(Zg5 e).length=30+e.1.length+(Zeo e.txt).2.length:=by
 unfold Zg5 ZvF;rw [List.length_append,List.length_append,Zc9];omega
theorem Zb8 {e:Fil} (h:Zcb e=true):Zdu e.1=true∧stM e.2.1 e.2.2.1 e.2.2.2.1 e.2.2.2.2.1 e.2.2.2.2.2.1 e.2.2.2.2.2.2.1=true∧e.txt.length≤300:=by
 unfold Zcb at h
 simp only [Bool.and_eq_true,decide_eq_true_eq] at h
 exact ⟨h.1,h.2.1,h.2.2⟩
set_option maxRecDepth 100000 in
theorem ZvE (e:Fil) (h:Zcb e=true) (x:Str):Zgs (Zg5 e++x)=some (e,(Zg5 e).length):=by
 obtain ⟨h1,h2,h3⟩:=Zb8 h
 have hL:=ZgS e
 have hnl:=ZcY h1
 have hp:=ZiK e.txt
 have hu:=Zw8 e.txt h3
 have hc:=Ziv e.txt
 obtain ⟨y,mo,d,hh,mi,sec,e1,e2,e3,e4,e5,e6,_⟩:=ZjC h2
 have hst:stF e=stN y mo d hh mi sec:=by
  unfold stF;rw [e1,e2,e3,e4,e5,e6];simp only [Int.toNat_natCast]
 rw [e1,e2,e3,e4,e5,e6] at h2
 obtain ⟨g1,g2⟩:=ZoA h2
 rw [←hst] at g1 g2
 obtain ⟨s,hs⟩:∃s,s=Zg5 e++x:=⟨_,rfl⟩
 rw [←hs]
 have hsl:s.length=(Zg5 e).length+x.length:=by rw [hs,List.length_append]
 have happ:s=ZvF e++(e.1++((Zeo e.txt).2++x)):=by rw [hs];unfold Zg5;simp only [List.append_assoc]
 have hl30:(ZvF e).length=30:=Zc9 _ _ _ _ _ _
 have ht30:ZvF e=s.take 30:=by rw [happ,List.take_left' hl30]
 have hd30:s.drop 30=e.1++((Zeo e.txt).2++x):=by rw [happ,List.drop_left' hl30]
 have hname:(s.drop 30).take e.1.length=e.1:=by rw [hd30,List.take_left' rfl]
 have hbody:(s.drop (30+e.1.length)).take (Zeo e.txt).2.length=(Zeo e.txt).2:=by
  rw [←List.drop_drop,hd30,List.drop_left' rfl,List.take_left' rfl]
 obtain ⟨q1,q2,q3,q4,q5,q6,q7,q8,q9,q10⟩:=(Zo2 s (by omega) (Zeo e.txt).1 (stF e) (Zpu e.txt) (Zeo e.txt).2.length e.txt.length e.1.length (by omega) g2 hc (by omega) (by omega) (by omega)).1 ht30
 unfold Zgs
 rw [if_neg (by omega),q9,q7,if_neg (by omega),q4,hbody,hu]
 dsimp only
 have hC:ZrW s e.txt:=by
  unfold ZrW
  rw [q9,hname,q5,g1]
  exact ⟨h1,h2,h3,q1,q2,q3,q10,q6,q8⟩
 rw [if_pos hC,hname,q5,g1]
 dsimp only
 rw [←e1,←e2,←e3,←e4,←e5,←e6,←hL]
end Ev
end
section
namespace Ev
open Go
def Zm2 (es:List Fil):Str:=(es.map Zg5).flatten
def Ze9 (es:List Fil):Str:=Zm2 es++Zd5 (es.map Zg5)
theorem Zj2 (e:Fil) (r:List Fil):Zm2 (e::r)=Zg5 e++Zm2 r:=by simp [Zm2]
theorem Zhv (es:List Fil):(Zm2 es).length=Zfb (es.map Zg5):=by
 induction es with
 | nil=>rfl
 | cons e r ih=>rw [Zj2,List.length_append,ih];simp [Zfb]
theorem Zlx (rest:Str) (hr:Zgs rest=none):∀(es:List Fil) (K:Nat),es.length≤K→(∀e∈es,Zcb e=true)→Za7 K (Zm2 es++rest)=(es,es.map Zg5,rest)
 | [],K,hK,h=>by
  rw [show Zm2 []++rest=rest from rfl]
  cases K with
  | zero=>rfl
  | succ K=>rw [Za7,hr];rfl
 | e::r,K,hK,h=>by
  rw [List.length_cons] at hK
  obtain ⟨K,rfl⟩:∃K',K=K'+1:=⟨K-1,by omega⟩
  rw [Zj2,List.append_assoc,Za7,ZvE e (h e (List.mem_cons_self ..))]
  dsimp only
  rw [List.drop_left' rfl,List.take_left' rfl,Zlx rest hr r K (by omega) (fun x hx=>h x (List.mem_cons_of_mem _ hx))]
  rfl
theorem Zsj (ls:List Str):Zgs (Zd5 ls)=none:=Zmz _ _ _ _ _
theorem ZhF {es:List Fil} (h:Zgh es=true):(∀e∈es,Zcb e=true)∧es.length≤6:=by
 unfold Zgh at h
 simp only [Bool.and_eq_true,List.all_eq_true,decide_eq_true_eq] at h
 exact ⟨h.1,h.2.1⟩
theorem Zkl (es:List Fil) (h:Zgh es=true):Zev (Ze9 es)=some es:=by
 obtain ⟨h1,h2⟩:=ZhF h
 unfold Zev Ze9
 rw [Zlx _ (Zsj _) es 6 h2 h1]
 dsimp only
 rw [if_pos ⟨h,rfl⟩]
theorem ZrU {e:Fil} (h:Zcb e=true):(Zg5 e).length≤373∧30≤(Zg5 e).length:=by
 obtain ⟨h1,h2,h3⟩:=Zb8 h
 have:=ZcY h1
 have:=ZiK e.txt
 rw [ZgS];omega
theorem ZlM {e:Fil} (h:Zcb e=true):leN (Zg5 e) 26 2=e.1.length:=by
 obtain ⟨h1,h2,h3⟩:=Zb8 h
 have hnl:=ZcY h1
 have hp:=ZiK e.txt
 have hc:=Ziv e.txt
 obtain ⟨y,mo,d,hh,mi,sec,e1,e2,e3,e4,e5,e6,_⟩:=ZjC h2
 have hst:stF e=stN y mo d hh mi sec:=by
  unfold stF;rw [e1,e2,e3,e4,e5,e6];simp only [Int.toNat_natCast]
 rw [e1,e2,e3,e4,e5,e6] at h2
 obtain ⟨g1,g2⟩:=ZoA h2
 rw [←hst] at g2
 have hL:=ZgS e
 have hl30:(ZvF e).length=30:=Zc9 _ _ _ _ _ _
 have ht30:ZvF e=(Zg5 e).take 30:=by unfold Zg5;rw [List.take_left' hl30]
 exact ((Zo2 (Zg5 e) (by omega) (Zeo e.txt).1 (stF e) (Zpu e.txt) (Zeo e.txt).2.length e.txt.length e.1.length (by omega) g2 hc (by omega) (by omega) (by omega)).1 ht30).2.2.2.2.2.2.2.2.1
theorem ZnL {e:Fil} (h:Zcb e=true):Zm6 (Zg5 e):=by
 have h1:=ZrU h
 refine ⟨?_,by omega⟩
 rw [ZlM h,ZgS];omega
theorem Zoy (es:List Fil) (h:∀e∈es,Zcb e=true):Zfb (es.map Zg5)≤373*es.length:=by
 unfold Zfb
 rw [List.map_map]
 exact Zfo _ 373 es fun e he=>(ZrU (h e he)).1
theorem Zn1 (es:List Fil) (h:∀e∈es,Zcb e=true):∀a,(Zca (es.map Zg5) a).length=(es.map fun e=>46+e.1.length).sum:=by
 induction es with
 | nil=>intro a;rfl
 | cons e r ih=>
  intro a
  have he:=h e (List.mem_cons_self ..)
  simp only [List.map_cons,Zca,List.length_append,List.sum_cons]
  rw [Zf0 _ _ (ZnL he),ZlM he,ih (fun x hx=>h x (List.mem_cons_of_mem _ hx))]
theorem Zry (es:List Fil) (h:∀e∈es,Zcb e=true):(Ze9 es).length=Zfb (es.map Zg5)+(es.map fun e=>46+e.1.length).sum+22:=by
 unfold Ze9 Zd5
 rw [List.length_append,List.length_append,Zhv,ZfG,Zn1 es h];omega
theorem ZgF (es:List Fil) (h:Zgh es=true):(Ze9 es).length≤3000:=by
 obtain ⟨h1,h2⟩:=ZhF h
 have a1:=Zoy es h1
 have a2:=Zfo (fun e:Fil=>46+e.1.length) 89 es fun e he=>by
  have:=ZcY (Zb8 (h1 e he)).1
  omega
 rw [Zry es h1];omega
theorem Znr:∀(K:Nat) (s:Str),s=(Za7 K s).2.1.flatten++(Za7 K s).2.2
 | 0,s=>by simp [Za7]
 | K+1,s=>by
  rw [Za7]
  cases hm:Zgs s with
  | none=>simp
  | some p=>
   obtain ⟨e,n⟩:=p
   have:=Znr K (s.drop n)
   dsimp only
   rw [List.flatten_cons,List.append_assoc,←this,List.take_append_drop]
end Ev
end
section
namespace Ev
open Go
theorem ZxM (e:Fil) (hn:e.1.length≤1048576):Zcm e.1 e.2.1 e.2.2.1 e.2.2.2.1 e.2.2.2.2.1 e.2.2.2.2.2.1 e.2.2.2.2.2.2.1 e.2.2.2.2.2.2.2=some (Zcb e):=Zj8 _ hn _ _ _ _ _ _ _
theorem ZpL (e:Fil) (hn:e.1.length≤1048576):Za2 e.1 e.2.1 e.2.2.1 e.2.2.2.1 e.2.2.2.2.1 e.2.2.2.2.2.1 e.2.2.2.2.2.2.1 e.2.2.2.2.2.2.2=some (Zcb e):=Zf8 _ hn _ _ _ _ _ _ _
theorem Zq5 {e:Fil} (h:Zcb e=true):∃(nm:Str) (y mo d hh mi sec:Nat) (t:Str),e=(nm,(y:Int),(mo:Int),(d:Int),(hh:Int),(mi:Int),(sec:Int),t)∧Zdu nm=true∧stM y mo d hh mi sec=true∧t.length≤300∧nm.length≤43∧1≤nm.length∧stF e=stN y mo d hh mi sec∧stN y mo d hh mi sec<4294967296:=by
 obtain ⟨h1,h2,h3⟩:=Zb8 h
 have hnl:=ZcY h1
 obtain ⟨nm,y,mo,d,hh,mi,sec,t⟩:=e
 dsimp only at h1 h2 h3 hnl
 obtain ⟨y',mo',d',hh',mi',sec',rfl,rfl,rfl,rfl,rfl,rfl,_⟩:=ZjC h2
 exact ⟨nm,y',mo',d',hh',mi',sec',t,rfl,h1,h2,h3,hnl.2,hnl.1,by unfold stF;simp only [Int.toNat_natCast],(ZoA h2).2⟩
theorem ZrS (e:Fil) (hn:e.1.length≤1048576):Zdv e.1 e.2.1 e.2.2.1 e.2.2.2.1 e.2.2.2.2.1 e.2.2.2.2.2.1 e.2.2.2.2.2.2.1 e.2.2.2.2.2.2.2=some (if Zcb e then Zg5 e else []):=by
 unfold Zdv
 rw [ZxM e hn]
 simp only [Zaa]
 cases hf:Zcb e with
 | false=>rfl
 | true=>
  obtain ⟨nm,y,mo,d,hh,mi,sec,t,rfl,h1,h2,h3,h4,_,h5,h6⟩:=Zq5 hf
  have hb:=ZtA t
  dsimp only
  simp only [Bool.not_true,cond_false]
  rw [if_pos trivial,Zr9 t h3]
  simp only [Zaa]
  unfold Zg5 ZvF Zeo
  rw [h5]
  dsimp only [Fil.txt]
  by_cases hlt:(Zg0 t).length<t.length
  ·rw [decide_eq_true (by omega),cond_true,if_pos hlt]
   have:=Zl7 nm (by omega) h2 t (by omega) 8 (Zg0 t).length (by omega) (by omega)
   rw [show ((8:Nat):Int)=8 from rfl] at this
   rw [this]
   simp only [Zaa]
   rw [Zad (by rw [Zc9];omega),Zad (by rw [List.length_append,Zc9];omega),List.append_assoc]
  ·rw [decide_eq_false (by omega),cond_false,if_neg hlt]
   have:=Zl7 nm (by omega) h2 t (by omega) 0 t.length (by omega) (by omega)
   rw [show ((0:Nat):Int)=0 from rfl] at this
   rw [this]
   simp only [Zaa]
   rw [Zad (by rw [Zc9];omega),Zad (by rw [List.length_append,Zc9];omega),List.append_assoc]
theorem Zo7 (es:List Fil) (i:Nat) (h:i<es.length):es.getD i ([],0,0,0,0,0,0,[])=es[i]:=Zal h
theorem Zpw (es:List Fil) (hn:es.length≤1000) (hx:∀e∈es,Zcb e=true):∀(j i:Nat) (out:List Str),i+j=es.length→out.length=i→
  ZcW.l0 (j+1) (es,(es.length:Int),(i:Int),out)=some (out++(es.drop i).map Zg5)
 | 0,i,out,h,ho=>by
  rw [ZcW.l0.succ];simp only [ZcW.l0.step]
  rw [ZaZ (by omega),List.drop_eq_nil_of_le (by omega)];simp
 | j+1,i,out,h,ho=>by
  have hi:i<es.length:=by omega
  have hf:=hx es[i] (List.getElem_mem hi)
  have hnl:=ZcY (Zb8 hf).1
  rw [ZcW.l0.succ];simp only [ZcW.l0.step]
  rw [ZaY hi,cond_true,Zab _ ZaB,Int.toNat_natCast,Zo7 es i hi,ZrS _ (by omega),if_pos hf]
  simp only [Zaa]
  rw [Zad (by simp;omega),Zaf (by omega) (by omega),show (i:Int)+1=((i+1:Nat):Int) by omega,
   Zpw es hn hx j (i+1) _ (by omega) (by simp [ho]),List.drop_eq_getElem_cons hi,List.map_cons,List.append_assoc]
  rfl
theorem ZvW (xs:List Str):Zr4 xs []=xs.flatten:=by
 unfold Zr4
 induction xs with
 | nil=>rfl
 | cons x r ih=>
  cases r with
  | nil=>simp [List.intercalate]
  | cons y r=>simp only [List.intercalate,List.intersperse,List.flatten_cons] at ih ⊢;rw [ih];rfl
theorem ZuO (es:List Fil) (hn:es.length≤1048576) (hx:∀e∈es,e.1.length≤1048576):ZcW es=some (if Zgh es then Ze9 es else []):=by
 unfold ZcW
 rw [Zoq es hn hx]
 simp only [Zaa]
 cases hz:Zgh es with
 | false=>rfl
 | true=>
  obtain ⟨h1,h2⟩:=ZhF hz
  have h:=Zpw es (by omega) h1 es.length 0 [] (by omega) rfl
  rw [show ((0:Nat):Int)=0 from rfl,List.drop_zero,List.nil_append] at h
  have hs:=Zoy es h1
  have hle:=ZgF es hz
  have hfl:=Zhv es
  have hcl:ZbD (es.map Zg5)=some (Zd5 (es.map Zg5)):=Zoh _ (by rw [List.length_map];omega) (fun l hl=>by
   obtain ⟨e,he,rfl⟩:=List.mem_map.1 hl
   exact ZnL (h1 e he))
  simp only [Bool.not_true,cond_false]
  rw [if_pos trivial,ZaJ,h]
  simp only [Zaa]
  unfold joinS
  rw [ZvW,show (es.map Zg5).flatten=Zm2 es from rfl,Zab _ (by rw [Bool.and_eq_true];exact ⟨Ze2 (by rw [List.length_map];omega),Ze2 (by omega)⟩)]
  simp only [Zaa]
  rw [hcl]
  simp only [Zaa]
  rw [Zad (by unfold Ze9 at hle;rw [List.length_append] at hle;omega)]
  rfl
theorem Zs0 (t:Str) (ht:t.length≤300):Zhb t=some (((Zeo t).1:Int),(Zeo t).2):=by
 unfold Zhb Zeo
 rw [Zln t ht]
 simp only [Zaa]
 by_cases hlt:(Zg0 t).length<t.length
 ·rw [decide_eq_true (by omega),if_pos hlt];rfl
 ·rw [decide_eq_false (by omega),if_neg hlt];rfl
def Zyh (e:Fil):Str:=leB 20 2++leB 0 2++leB (Zeo e.txt).1 2++leB (stF e) 4++leB (Zpu e.txt) 4++leB (Zeo e.txt).2.length 4++leB e.txt.length 4++leB e.1.length 2++leB 0 2
theorem ZsP (e:Fil):ZvF e=leB 67324752 4++Zyh e:=by
 unfold ZvF ZqS Zyh;simp only [List.append_assoc]
theorem Zit (e:Fil):(Zyh e).length=26:=by
 unfold Zyh;simp only [List.length_append,ZaI]
set_option maxRecDepth 100000 in
theorem ZlT (e:Fil) (hf:Zcb e=true):ZcF e.1 e.2.1 e.2.2.1 e.2.2.2.1 e.2.2.2.2.1 e.2.2.2.2.2.1 e.2.2.2.2.2.2.1 e.2.2.2.2.2.2.2=some (Zyh e):=by
 have L:∀n k,(leB n k).length=k:=ZaI
 obtain ⟨nm,y,mo,d,hh,mi,sec,t,rfl,h1,h2,h3,h4,_,h5,h6⟩:=Zq5 hf
 have hp:=ZiK t
 have hc:=Ziv t
 have n1:=Zbe 20 2 (by omega) (by omega)
 have n2:=Zbe 0 2 (by omega) (by omega)
 have n3:=Zbe (Zeo t).1 2 (by omega) (by omega)
 have n4:=Zbe (stN y mo d hh mi sec) 4 (by omega) (by omega)
 have n5:=Zbe (Zpu t) 4 (by omega) (by omega)
 have n6:=Zbe (Zeo t).2.length 4 (by omega) (by omega)
 have n7:=Zbe t.length 4 (by omega) (by omega)
 have n8:=Zbe nm.length 2 (by omega) (by omega)
 rw [show ((20:Nat):Int)=20 from rfl,show ((2:Nat):Int)=2 from rfl] at n1
 rw [show ((0:Nat):Int)=0 from rfl,show ((2:Nat):Int)=2 from rfl] at n2
 rw [show ((2:Nat):Int)=2 from rfl] at n3 n8
 rw [show ((4:Nat):Int)=4 from rfl] at n4 n5 n6 n7
 unfold ZcF
 dsimp only
 rw [Zs0 t h3]
 simp only [Zaa]
 rw [n1,n2]
 simp only [Zaa]
 rw [Zad (by simp only [L];omega),n3]
 simp only [Zaa]
 rw [Zad (by simp only [List.length_append,L];omega),Zxv h2]
 simp only [Zaa]
 rw [n4]
 simp only [Zaa]
 rw [Zad (by simp only [List.length_append,L];omega),Znl t (by omega)]
 simp only [Zaa]
 rw [n5]
 simp only [Zaa]
 rw [Zad (by simp only [List.length_append,L];omega),n6]
 simp only [Zaa]
 rw [Zad (by simp only [List.length_append,L];omega),n7]
 simp only [Zaa]
 rw [Zad (by simp only [List.length_append,L];omega),n8]
 simp only [Zaa]
 rw [Zad (by simp only [List.length_append,L];omega),Zad (by simp only [List.length_append,L];omega)]
 unfold Zyh
 rw [h5]
theorem Zuc (e:Fil) (hf:Zcb e=true):Zef e.1 e.2.1 e.2.2.1 e.2.2.2.1 e.2.2.2.2.1 e.2.2.2.2.2.1 e.2.2.2.2.2.2.1 e.2.2.2.2.2.2.2=some (Zg5 e):=by
 have hfl:=Zit e
 have hff:=ZlT e hf
 obtain ⟨g1,g2,g3⟩:=Zb8 hf
 have hnl:=ZcY g1
 have hp:(Zeo e.2.2.2.2.2.2.2).2.length≤e.2.2.2.2.2.2.2.length∧(Zeo e.2.2.2.2.2.2.2).1≤8:=ZiK e.txt
 have g3':e.2.2.2.2.2.2.2.length≤300:=g3
 have n1:=Zbe 67324752 4 (by omega) (by omega)
 rw [show ((67324752:Nat):Int)=67324752 from rfl,show ((4:Nat):Int)=4 from rfl] at n1
 unfold Zef
 rw [Zs0 e.2.2.2.2.2.2.2 g3]
 simp only [Zaa]
 rw [n1,hff]
 simp only [Zaa]
 rw [Zad (by rw [ZaI];omega),Zad (by rw [List.length_append,ZaI];omega),Zad (by rw [List.length_append,List.length_append,ZaI];omega)]
 unfold Zg5
 rw [ZsP]
 simp only [List.append_assoc]
theorem Ztx (e:Fil) (hf:Zcb e=true) (a:Nat):Ziw (Zg5 e) a=leB 33639248 4++leB 20 2++Zyh e++leB 0 10++leB a 4++e.1:=by
 have hl30:(ZvF e).length=30:=Zc9 _ _ _ _ _ _
 have h1:((Zg5 e).take 30).drop 4=Zyh e:=by
  unfold Zg5
  rw [List.take_left' hl30,ZsP,List.drop_left' (ZaI _ _)]
 have h2:((Zg5 e).take (30+e.1.length)).drop 30=e.1:=by
  unfold Zg5
  rw [←List.append_assoc,List.take_left' (by rw [List.length_append,hl30]),List.drop_left' hl30]
 unfold Ziw
 rw [ZlM hf,h1,h2]
theorem Zqw (e:Fil) (hf:Zcb e=true) (a:Nat) (ha:a≤100000000):ZcJ e.1 e.2.1 e.2.2.1 e.2.2.2.1 e.2.2.2.2.1 e.2.2.2.2.2.1 e.2.2.2.2.2.2.1 e.2.2.2.2.2.2.2 (a:Int)=some (Ziw (Zg5 e) a):=by
 have L:∀n k,(leB n k).length=k:=ZaI
 have hfl:=Zit e
 have hff:=ZlT e hf
 obtain ⟨g1,g2,g3⟩:=Zb8 hf
 have hnl:=ZcY g1
 have n1:=Zbe 33639248 4 (by omega) (by omega)
 have n2:=Zbe 20 2 (by omega) (by omega)
 have n3:=Zbe 0 2 (by omega) (by omega)
 have n4:=Zbe 0 4 (by omega) (by omega)
 have n5:=Zbe a 4 (by omega) (by omega)
 rw [show ((33639248:Nat):Int)=33639248 from rfl,show ((4:Nat):Int)=4 from rfl] at n1
 rw [show ((20:Nat):Int)=20 from rfl,show ((2:Nat):Int)=2 from rfl] at n2
 rw [show ((0:Nat):Int)=0 from rfl,show ((2:Nat):Int)=2 from rfl] at n3
 rw [show ((0:Nat):Int)=0 from rfl,show ((4:Nat):Int)=4 from rfl] at n4
 rw [show ((4:Nat):Int)=4 from rfl] at n5
 unfold ZcJ
 rw [n1,n2,hff,n3,n4,n5]
 simp only [Zaa]
 rw [Zad (by simp only [L];omega),Zad (by simp only [List.length_append,L];omega),Zad (by simp only [List.length_append,L];omega),Zad (by simp only [List.length_append,L];omega),Zad (by simp only [List.length_append,L];omega),
  Zad (by simp only [List.length_append,L];omega),Zad (by simp only [List.length_append,L];omega),Zad (by simp only [List.length_append,L];omega),Ztx e hf a]
 have z:leB 0 10=leB 0 2++(leB 0 2++(leB 0 2++leB 0 4)):=by decide
 rw [z]
 simp only [List.append_assoc]
theorem ZxY (e:Fil) (hf:Zcb e=true) (a:Nat):(Ziw (Zg5 e) a).length≤89:=by
 have hnl:=ZcY (Zb8 hf).1
 rw [Ztx e hf]
 simp only [List.length_append,ZaI,Zit];omega
theorem ZsV (es:List Fil) (hn:es.length≤1000) (hx:∀e∈es,Zcb e=true):∀(j i:Nat) (out heads:Str),i+j=es.length→out.length≤373*i→heads.length≤89*i→
  ZdW.l0 (j+1) (es,out,heads,(i:Int))=some (es,out++Zm2 (es.drop i),heads++Zca ((es.drop i).map Zg5) out.length)
 | 0,i,out,heads,h,ho,hh=>by
  rw [ZdW.l0.succ];simp only [ZdW.l0.step]
  rw [ZaZ (by omega),List.drop_eq_nil_of_le (by omega)];simp [Zm2,Zca]
 | j+1,i,out,heads,h,ho,hh=>by
  have hi:i<es.length:=by omega
  have hf:=hx es[i] (List.getElem_mem hi)
  have hc:=ZxY es[i] hf out.length
  have hl:=ZrU hf
  rw [ZdW.l0.succ];simp only [ZdW.l0.step]
  rw [ZaY hi,cond_true,Zab _ ZaB,Int.toNat_natCast,Zo7 es i hi,Zqw _ hf _ (by omega)]
  simp only [Zaa]
  rw [Zad (by omega),Zab _ ZaB,Zuc _ hf]
  simp only [Zaa]
  rw [Zad (by omega),Zaf (by omega) (by omega),show (i:Int)+1=((i+1:Nat):Int) by omega,
   ZsV es hn hx j (i+1) _ _ (by omega) (by rw [List.length_append];omega) (by rw [List.length_append];omega),List.drop_eq_getElem_cons hi,List.map_cons,Zj2]
  simp only [Zca,List.append_assoc,List.length_append]
theorem ZsW (es:List Fil) (hn:es.length≤1000) (hx:∀e∈es,Zcb e=true):ZdW es=some (Ze9 es):=by
 have h:=ZsV es hn hx es.length 0 [] [] (by omega) (by simp) (by simp)
 rw [show ((0:Nat):Int)=0 from rfl,List.drop_zero,List.nil_append,List.nil_append,List.length_nil] at h
 have h1:=Zoy es hx
 have h2:=Zhv es
 have h3:=Zn1 es hx 0
 have h4:=Zfo (fun e:Fil=>46+e.1.length) 89 es fun e he=>by
  have:=ZcY (Zb8 (hx e he)).1
  omega
 unfold ZdW
 rw [ZaJ,h]
 simp only [Zaa]
 rw [Zad (by omega),ZsY es.length _ _ (by omega) (by omega) (by omega)]
 simp only [Zaa]
 rw [Zad (by rw [List.length_append,ZfG];omega)]
 unfold Ze9 Zd5
 rw [List.length_map,h2,List.append_assoc]
def Zjd (es:List Fil):Str×Str×Bool:=if Zgh es then (Ze9 es,[],true) else ([],[],false)
theorem Zuy (es:List Fil) (hn:es.length≤1048576) (hx:∀e∈es,e.1.length≤1048576):Zel es=some (Zjd es):=by
 unfold Zel Zjd
 rw [Zoq es hn hx]
 simp only [Zaa]
 cases hz:Zgh es with
 | false=>rfl
 | true=>
  simp only [Bool.not_true,cond_false]
  rw [ZuO es hn hx,hz];rfl
theorem ZmV (es:List Fil) (hn:es.length≤1048576) (hx:∀e∈es,e.1.length≤1048576):ZbP es=some (Zjd es):=by
 unfold ZbP Zjd
 rw [Zm8 es hn hx]
 simp only [Zaa]
 cases hz:Zgh es with
 | false=>rfl
 | true=>
  obtain ⟨h1,h2⟩:=ZhF hz
  simp only [Bool.not_true,cond_false]
  rw [ZsW es (by omega) h1];rfl
end Ev
end
section
namespace Ev
open Go
theorem Zn4 (a b:List Str) (i:Nat) (h:i<a.length):(a++b).getD i []=a.getD i []:=by
 simp only [List.getD_eq_getElem?_getD,List.getElem?_append_left h]
theorem Zuo (a:List Str) (n:Str):(a++[n]).getD a.length []=n:=by
 simp [List.getD_eq_getElem?_getD]
theorem ZmJ (ns:List Str) (n:Str):ZgE (ns++[n])=(ZgE ns&&ns.all fun b=>!hit n b):=by
 unfold ZgE
 rw [List.length_append,List.length_cons,List.length_nil,Nat.zero_add,List.range_succ,List.all_append,List.all_cons,List.all_nil,Bool.and_true]
 congr 1
 ·apply Bool.eq_iff_iff.2
  rw [List.all_eq_true,List.all_eq_true]
  constructor<;>intro h i hi
  ·have hlt:=List.mem_range.1 hi
   have:=h i hi
   rwa [List.take_append_of_le_length (by omega),Zn4 _ _ _ hlt] at this
  ·have hlt:=List.mem_range.1 hi
   have:=h i hi
   rwa [List.take_append_of_le_length (by omega),Zn4 _ _ _ hlt]
 ·rw [List.take_left' rfl,Zuo]
theorem ZwW {α:Type} {P:List α→Prop} (h0:P []) (h1:∀l x,P l→P (l++[x])) (l:List α):P l:=by
 have:∀r:List α,P r.reverse:=fun r=>by
  induction r with
  | nil=>exact h0
  | cons x r ih=>rw [List.reverse_cons];exact h1 _ _ ih
 have h:=this l.reverse
 rwa [List.reverse_reverse] at h
theorem Zrp (ns:List Str):ZgE ns=true↔ns.Pairwise fun a b=>hit b a=false:=by
 refine ZwW (P:=fun ns:List Str=>ZgE ns=true↔ns.Pairwise fun a b=>hit b a=false) (by simp [ZgE]) (fun ns n ih=>?_) ns
 rw [ZmJ,Bool.and_eq_true,ih,List.all_eq_true,List.pairwise_append]
 constructor
 ·rintro ⟨h1,h2⟩
  refine ⟨h1,by simp,fun a ha b hb=>?_⟩
  have:b=n:=by simpa using hb
  subst this
  have:=h2 a ha
  rwa [Bool.not_eq_true'] at this
 ·rintro ⟨h1,_,h2⟩
  exact ⟨h1,fun a ha=>by rw [Bool.not_eq_true'];exact h2 a ha n (by simp)⟩
def Apart (ns:List Str):Prop:=ns.Pairwise fun a b=>hit b a=false
theorem ZkR (es:List Fil):Zgh es=true↔(∀e∈es,Zcb e=true)∧es.length≤6∧Apart (es.map Prod.fst):=by
 unfold Zgh
 simp only [Bool.and_eq_true,List.all_eq_true,decide_eq_true_eq,Zrp]
 rfl
theorem Zom (ns:List Str):ZgE ns=true↔Apart ns:=Zrp ns
end Ev
end
section
namespace Ev
open Go
def Zkd (es:List Fil) (n:Str):Bool:=es.any fun e=>hit n e.1
theorem Zv1 (a n:Str):hit n a=(a==n||(ZfL a n||ZfL n a)):=by
 unfold hit
 rw [ZiI,ZiI]
 congr 1
 rw [Bool.eq_iff_iff,beq_iff_eq,beq_iff_eq]
 exact eq_comm
theorem ZnN (es:List Fil) (n:Str) (hn:es.length≤1048576):∀(j i:Nat),i+j=es.length→
  Zb5.l0 (j+1) (es,n,(i:Int))=some (if Zkd (es.drop i) n then .inr true else .inl ())
 | 0,i,h=>by
  rw [Zb5.l0.succ];simp only [Zb5.l0.step]
  rw [ZaZ (by omega),List.drop_eq_nil_of_le (by omega)];rfl
 | j+1,i,h=>by
  have hi:i<es.length:=by omega
  rw [Zb5.l0.succ];simp only [Zb5.l0.step]
  rw [ZaY hi,cond_true,Zab _ ZaB,Zab _ ZaB,Zab _ ZaB,Int.toNat_natCast,Zo7 es i hi,ZjU,ZjU,Zaf (by omega) (by omega),show (i:Int)+1=((i+1:Nat):Int) by omega,ZnN es n hn j (i+1) (by omega)]
  simp only [Zaa]
  have hc:Zkd (es.drop i) n=(hit n es[i].1||Zkd (es.drop (i+1)) n):=by unfold Zkd;rw [List.drop_eq_getElem_cons hi,List.any_cons]
  rw [hc,Zv1]
  cases es[i].1==n<;>cases ZfL es[i].1 n<;>cases ZfL n es[i].1<;>cases Zkd (es.drop (i+1)) n<;>rfl
theorem Zub (es:List Fil) (n:Str) (hn:es.length≤1048576):Zb5 es n=some (Zkd es n):=by
 have h:=ZnN es n hn es.length 0 (by omega)
 rw [show ((0:Nat):Int)=0 from rfl,List.drop_zero] at h
 unfold Zb5
 rw [ZaJ,h]
 cases Zkd es n<;>rfl
theorem ZwD (es:List Fil) (n:Str) (h:ZgE (es.map Prod.fst)=true):ZgE (es.map Prod.fst++[n])= !Zkd es n:=by
 rw [ZmJ,h,Bool.true_and]
 unfold Zkd
 rw [List.all_map]
 induction es with
 | nil=>rfl
 | cons e r ih=>
  have hr:ZgE (r.map Prod.fst)=true:=by
   rw [Zom] at h ⊢
   exact (List.pairwise_cons.1 h).2
  rw [List.all_cons,List.any_cons,ih hr,Bool.not_or];rfl
def addC (es:List Fil) (e:Fil):Int:=if Zcb e=false then 1 else if Zkd es e.1=true then 3 else if 6≤es.length then 4 else 0
theorem ZtG {es:List Fil} (h:Zgh es=true):ZgE (es.map Prod.fst)=true:=by
 unfold Zgh at h
 simp only [Bool.and_eq_true] at h
 exact h.2.2
theorem ZsU (es:List Fil) (hn:es.length≤1000) (e:Fil) (he:e.1.length≤1048576):ZiW e.1 e.2.1 e.2.2.1 e.2.2.2.1 e.2.2.2.2.1 e.2.2.2.2.2.1 e.2.2.2.2.2.2.1 e.2.2.2.2.2.2.2 es=some (addC es e,if addC es e=0 then es++[e] else es):=by
 unfold ZiW addC
 rw [ZpL e he]
 simp only [Zaa]
 cases hf:Zcb e with
 | false=>rfl
 | true=>
  simp only [Bool.not_true,cond_false]
  rw [Zub es e.1 (by omega)]
  simp only [Zaa]
  cases Zkd es e.1 with
  | true=>rfl
  | false=>
   rw [cond_false]
   by_cases h6:6≤es.length
   ·rw [decide_eq_true (by omega),cond_true];simp [h6]
   ·rw [decide_eq_false (by omega),cond_false,Zad (by simp;omega),Zad (by simp;omega),List.nil_append]
    simp [h6]
theorem Zx5 {es:List Fil} (h:Zgh es=true) {e:Fil} (hc:addC es e=0):Zgh (es++[e])=true∧Zcb e=true∧Zkd es e.1=false∧es.length<6:=by
 unfold addC at hc
 cases hf:Zcb e with
 | false=>rw [hf] at hc;simp at hc
 | true=>
  rw [hf] at hc
  cases hcl:Zkd es e.1 with
  | true=>rw [hcl] at hc;simp at hc
  | false=>
   rw [hcl] at hc
   have h6:es.length<6:=by
    rcases Nat.lt_or_ge es.length 6 with q | q
    ·exact q
    ·simp [q] at hc
   refine ⟨?_,rfl,rfl,h6⟩
   obtain ⟨g1,g2,g3⟩:=(ZkR es).1 h
   rw [ZkR]
   refine ⟨fun x hx=>?_,by simp;omega,?_⟩
   ·rcases List.mem_append.1 hx with hx | hx
    ·exact g1 x hx
    ·have:x=e:=by simpa using hx
     subst this;exact hf
   ·rw [List.map_append,List.map_cons,List.map_nil]
    exact (Zom _).1 (by rw [ZwD es e.1 (ZtG h),hcl];rfl)
end Ev
end
section
namespace Ev
open Go
theorem ZrK (xs:List Int) {b:List Int} {p:Int} (h:Zjt b p) (hp:p≤1000000000) (hx:0<xs.length) (hx2:xs.length≤1000000000):Ret (Ze0 xs b p) (Zkk b p 1 fun x=>x∈xs):=by
 unfold Ze0
 refine .bind (ZoL _ h hp (by omega)) ?_
 rintro ⟨r,b',p'⟩ ⟨rfl,rfl,h0,h1⟩
 dsimp only at h0 h1 ⊢
 have hlt:r<xs.length:=by omega
 ((try simp (disch:=omega) only [Zan,Zam,Zak,Zad,Zas,ZaO,Zaf,Zaz,Zaw,Zae,Option.map_some,cond_true,cond_false,Int.sub_zero,Int.toNat_natCast]);(try simp only [Zbo,ZdH,ZdK,Zat,Zbx,if_true,if_false]))
 refine .pure ⟨rfl,by dsimp only;omega,by dsimp only;omega,?_⟩
 dsimp only
 rw [Zal (by omega)]
 exact List.getElem_mem _
theorem ZyU (y mo:Int):∃n,Zoe y mo=some n∧28≤n:=by
 unfold Zoe
 cases (mo==4)<;>cases (mo==6)<;>cases (mo==9)<;>cases (mo==11)<;>simp only [cond_true,cond_false,Zaa]<;>first
  | exact ⟨30,rfl,by omega⟩
  | (cases (mo==2)<;>simp only [cond_true,cond_false,Zaa]<;>first
    | exact ⟨31,rfl,by omega⟩
    | (cases (y.tmod 4==0)<;>simp only [cond_true,cond_false,Zaa]<;>first
      | exact ⟨28,rfl,by omega⟩
      | (cases (y.tmod 100 != 0)<;>simp only [cond_true,cond_false,Zaa]<;>first
        | exact ⟨29,rfl,by omega⟩
        | (cases (y.tmod 400==0)<;>first
          | exact ⟨29,rfl,by omega⟩
          | exact ⟨28,rfl,by omega⟩))))
theorem ZxT (y mo:Int):28≤Zm5 y mo:=by
 obtain ⟨n,h,h2⟩:=ZyU y mo
 unfold Zm5;rw [h];exact h2
theorem Zu0 {y mo d h mi s:Int} (h1:1980≤y∧y≤2107) (h2:1≤mo∧mo≤12) (h3:1≤d∧d≤28) (h4:0≤h∧h≤23) (h5:0≤mi∧mi≤59) (h6:0≤s∧s≤58) (h7:s%2=0):stM y mo d h mi s=true:=by
 have:=ZxT y mo
 unfold stM
 rw [decide_eq_true h1,decide_eq_true h2,decide_eq_true (⟨h3.1,by omega⟩:1≤d∧d≤Zm5 y mo),decide_eq_true h4,decide_eq_true h5,decide_eq_true h6,Zaz (by omega),h7]
 rfl
def Zym (b:List Int) (p c:Int) (Q:Int→Int→Int→Int→Int→Int→Prop) (r:Int×Int×Int×Int×Int×Int×List Int×Int):Prop:=∃y mo d h mi s p',r=(y,mo,d,h,mi,s,b,p')∧p≤p'∧p'≤p+c∧Q y mo d h mi s
theorem Zgv {b:List Int} {p:Int} (h:Zjt b p) (hp:p≤900000000):Ret (ZbZ b p) (Zym b p 6 fun y mo d h mi s=>stM y mo d h mi s=true):=by
 unfold ZbZ
 refine .bind (ZrK _ h (by omega) (by decide) (by decide)) ?_
 rintro ⟨y,b1,p1⟩ ⟨rfl,g1,g2,g3⟩
 dsimp only at g1 g2 g3 ⊢
 refine .bind (Zdt 12 (h.up g1) (by omega) (by omega) (by omega)) ?_
 rintro ⟨mo,b2,p2⟩ ⟨rfl,k1,k2,k3⟩
 dsimp only at k1 k2 k3 ⊢
 refine .bind (Zdt 28 ((h.up g1).up k1) (by omega) (by omega) (by omega)) ?_
 rintro ⟨d,b3,p3⟩ ⟨rfl,l1,l2,l3⟩
 dsimp only at l1 l2 l3 ⊢
 refine .bind (Zdt 24 (((h.up g1).up k1).up l1) (by omega) (by omega) (by omega)) ?_
 rintro ⟨hh,b4,p4⟩ ⟨rfl,m1,m2,m3⟩
 dsimp only at m1 m2 m3 ⊢
 refine .bind (Zdt 60 ((((h.up g1).up k1).up l1).up m1) (by omega) (by omega) (by omega)) ?_
 rintro ⟨mi,b5,p5⟩ ⟨rfl,n1,n2,n3⟩
 dsimp only at n1 n2 n3 ⊢
 refine .bind (Zdt 30 (((((h.up g1).up k1).up l1).up m1).up n1) (by omega) (by omega) (by omega)) ?_
 rintro ⟨s,b6,p6⟩ ⟨rfl,o1,o2,o3⟩
 dsimp only at o1 o2 o3 ⊢
 rw [Zaf (by omega) (by omega),Zaf (by omega) (by omega),Zaf (by omega) (by omega)]
 refine .pure ⟨y,_,_,hh,mi,_,p6,rfl,by omega,by omega,?_⟩
 have hy:1980≤y∧y≤2107:=by
  simp only [List.mem_cons,List.not_mem_nil,or_false] at g3
  rcases g3 with rfl | rfl | rfl | rfl<;>omega
 exact Zu0 hy (by omega) (by omega) (by omega) (by omega) (by omega) (by omega)
theorem ZoU {b:List Int} {p:Int} (h:Zjt b p) (hp:p≤800000000):Ret (ZbR b p) (Zym b p 8 fun y mo d h mi s=>True):=by
 unfold ZbR
 refine .bind (Zgv h (by omega)) ?_
 rintro _ ⟨y,mo,d,hh,mi,s,p1,rfl,g1,g2,_⟩
 dsimp only
 refine .bind (Zdt 10 (h.up g1) (by omega) (by omega) (by omega)) ?_
 rintro ⟨x,b2,p2⟩ ⟨rfl,k1,k2,k3⟩
 dsimp only at k1 k2 k3 ⊢
 have h2:=(h.up g1).up k1
 refine .cond (fun _=>?_) fun _=>.cond (fun _=>?_) fun _=>.cond (fun _=>?_) fun _=>.cond (fun _=>?_) fun _=>.pure ⟨_,_,_,_,_,_,_,rfl,by omega,by omega,trivial⟩
 all_goals
  refine .bind (ZrK _ h2 (by omega) (by decide) (by decide)) ?_
  rintro ⟨z,b3,p3⟩ ⟨rfl,l1,l2,l3⟩
  dsimp only at l1 l2 l3 ⊢
  exact .pure ⟨_,_,_,_,_,_,_,rfl,by omega,by omega,trivial⟩
def entZ (e:Fil) (b:List Int) (p:Int):Str×Int×Int×Int×Int×Int×Int×Str×List Int×Int:=(e.1,e.2.1,e.2.2.1,e.2.2.2.1,e.2.2.2.2.1,e.2.2.2.2.2.1,e.2.2.2.2.2.2.1,e.2.2.2.2.2.2.2,b,p)
def ZwI (b:List Int) (p c:Int) (Q:Fil→Prop) (r:Str×Int×Int×Int×Int×Int×Int×Str×List Int×Int):Prop:=∃e p',r=entZ e b p'∧p≤p'∧p'≤p+c∧Q e
theorem Zuh {b:List Int} {p:Int} (h:Zjt b p) (hp:p≤900000000):Ret (ZcS b p) (Zkk b p 1 fun s=>Zdu s=true∧s∈ZiN):=by
 unfold ZcS
 refine .bind (Zkx _ h (by omega) (by decide) (by decide)) ?_
 rintro ⟨x,b2,p2⟩ ⟨rfl,k1,k2,k3⟩
 dsimp only at k1 k2 k3 ⊢
 refine .pure ⟨rfl,k1,k2,?_⟩
 dsimp only
 simp only [List.mem_cons,List.not_mem_nil,or_false] at k3
 rcases k3 with rfl | rfl | rfl | rfl | rfl | rfl | rfl<;>exact ⟨by decide +kernel,by decide⟩
theorem ZnZ {b:List Int} {p:Int} (h:Zjt b p) (hp:p≤800000000):Ret (Zch b p) (ZwI b p 57 fun e=>Zcb e=true∧e.1∈ZiN):=by
 unfold Zch
 refine .bind (Zuh h (by omega)) ?_
 rintro ⟨nm,b1,p1⟩ ⟨rfl,g1,g2,g3⟩
 dsimp only at g1 g2 g3 ⊢
 refine .bind (Zgv (h.up g1) (by omega)) ?_
 rintro _ ⟨y,mo,d,hh,mi,s,p2,rfl,k1,k2,k3⟩
 dsimp only
 refine .bind (Zl1 ((h.up g1).up k1) (by omega)) ?_
 rintro ⟨t,b3,p3⟩ ⟨rfl,l1,l2,l3⟩
 dsimp only at l1 l2 l3 ⊢
 refine .pure ⟨(nm,y,mo,d,hh,mi,s,t),p3,rfl,by omega,by omega,?_,g3.2⟩
 unfold Zcb
 dsimp only
 rw [g3.1,k3,decide_eq_true l3];rfl
def ZuG (e:Fil):Prop:=e.1∈ZiN∧e.txt.length≤301
theorem ZuG.len {e:Fil} (h:ZuG e):e.1.length≤11:=Zvr _ h.1
theorem Zpd {e:Fil} (h:Zcb e=true) (hn:e.1∈ZiN):ZuG e:=by
 obtain ⟨h1,h2,h3⟩:=Zb8 h
 exact ⟨hn,by omega⟩
theorem ZoW {b:List Int} {p:Int} (h:Zjt b p) (hp:p≤700000000):Ret (ZbS b p) (ZwI b p 120 ZuG):=by
 unfold ZbS
 refine .bind (ZnZ h (by omega)) ?_
 rintro _ ⟨e,p1,rfl,g1,g2,g3⟩
 have hsm:=Zpd g3.1 g3.2
 unfold entZ
 dsimp only
 refine .bind (Zdt 10 (h.up g1) (by omega) (by omega) (by omega)) ?_
 rintro ⟨x,b2,p2⟩ ⟨rfl,k1,k2,k3⟩
 dsimp only at k1 k2 k3 ⊢
 have h2:=(h.up g1).up k1
 refine .cond (fun _=>?_) fun _=>.cond (fun _=>?_) fun _=>.cond (fun _=>?_) fun _=>.pure ⟨e,p2,rfl,by omega,by omega,hsm⟩
 ·refine .bind (ZoV h2 (by omega)) ?_
  rintro ⟨z,b3,p3⟩ ⟨rfl,l1,l2,l3⟩
  dsimp only at l1 l2 l3 ⊢
  exact .pure ⟨(z,e.2),p3,rfl,by omega,by omega,l3,hsm.2⟩
 ·refine .bind (ZoU h2 (by omega)) ?_
  rintro _ ⟨y,mo,d,hh,mi,s,p3,rfl,l1,l2,_⟩
  dsimp only
  exact .pure ⟨(e.1,y,mo,d,hh,mi,s,e.txt),p3,rfl,by omega,by omega,hsm⟩
 ·refine .bind (ZqJ h2 (by omega)) ?_
  rintro ⟨z,b3,p3⟩ ⟨rfl,l1,l2,l3⟩
  dsimp only at l1 l2 l3 ⊢
  exact .pure ⟨(e.1,e.2.1,e.2.2.1,e.2.2.2.1,e.2.2.2.2.1,e.2.2.2.2.2.1,e.2.2.2.2.2.2.1,z),p3,rfl,by omega,by omega,hsm.1,l3⟩
def ZwH (b:List Int) (p c:Int) (Q:List Fil→Prop) (r:List Int×Int×List Fil):Prop:=r.1=b∧p≤r.2.1∧r.2.1≤p+c∧Q r.2.2
theorem Zpc (k:Nat) (hk:k<6) {y mo d h mi s:Int} (hs:stM y mo d h mi s=true):ZeT (k:Int)=some [UInt8.ofNat (48+k)]∧[102]++[UInt8.ofNat (48+k)]∈ZiN∧Zcb ([102]++[UInt8.ofNat (48+k)],y,mo,d,h,mi,s,[])=true:=by
 have h1:ZeT (k:Int)=some [UInt8.ofNat (48+k)]∧[102]++[UInt8.ofNat (48+k)]∈ZiN∧Zdu ([102]++[UInt8.ofNat (48+k)])=true:=by
  rcases k with _ | _ | _ | _ | _ | _ | k
  ·exact ⟨by decide +kernel,by decide,by decide +kernel⟩
  ·exact ⟨by decide +kernel,by decide,by decide +kernel⟩
  ·exact ⟨by decide +kernel,by decide,by decide +kernel⟩
  ·exact ⟨by decide +kernel,by decide,by decide +kernel⟩
  ·exact ⟨by decide +kernel,by decide,by decide +kernel⟩
  ·exact ⟨by decide +kernel,by decide,by decide +kernel⟩
  ·omega
 refine ⟨h1.1,h1.2.1,?_⟩
 unfold Zcb
 dsimp only
 rw [h1.2.2,hs];rfl
theorem ZnY {b:List Int}:∀(j:Nat) (out:List Fil) (p:Int),Zjt b p→p≤1000000+57*(4-j)→j≤4→out.length+j≤4→(∀e∈out,Zcb e=true∧e.1∈ZiN)→
  Ret (ZaF.l0 (j+1) ((j:Int),b,p,out)) fun r=>r.1=b∧p≤r.2.1∧r.2.1≤p+57*j∧r.2.2.length≤4∧∀e∈r.2.2,Zcb e=true∧e.1∈ZiN
 | 0,out,p,h,hp,hj,hl,ho=>by
  rw [ZaF.l0.succ];simp only [ZaF.l0.step]
  rw [decide_eq_false (by omega)]
  exact .pure ⟨rfl,by dsimp only;omega,by dsimp only;omega,by dsimp only;omega,ho⟩
 | j+1,out,p,h,hp,hj,hl,ho=>by
  rw [ZaF.l0.succ];simp only [ZaF.l0.step]
  rw [decide_eq_true (by omega),cond_true]
  refine .bind (ZnZ h (by omega)) ?_
  rintro _ ⟨e,p1,rfl,g1,g2,g3⟩
  unfold entZ
  dsimp only
  have hnl:=ZcY (Zb8 g3.1).1
  rw [ZsU out (by omega) e (by omega)]
  simp only [Zaa]
  rw [Zaf (by omega) (by omega),show ((j+1:Nat):Int)-1=(j:Int) by omega]
  refine (ZnY j _ p1 (h.up g1) (by omega) (by omega) ?_ ?_).mono ?_
  ·split
   ·simp;omega
   ·omega
  ·split
   ·intro x hx
    rcases List.mem_append.1 hx with hx | hx
    ·exact ho x hx
    ·have:x=e:=by simpa using hx
     subst this;exact g3
   ·exact ho
  ·rintro r ⟨q1,q2,q3,q4,q5⟩
   exact ⟨q1,by omega,by omega,q4,q5⟩
theorem ZnX {b:List Int}:∀(j k:Nat) (out:List Fil) (p:Int),k+j=6→Zjt b p→p≤2000000+6*(6-j)→out.length=k→(∀e∈out,Zcb e=true∧e.1∈ZiN)→
  Ret (ZaF.l1 (j+1) ((k:Int),b,p,out)) fun r=>r.1=b∧p≤r.2.1∧r.2.1≤p+6*j∧r.2.2.length≤6∧∀e∈r.2.2,Zcb e=true∧e.1∈ZiN
 | 0,k,out,p,hk,h,hp,hl,ho=>by
  rw [ZaF.l1.succ];simp only [ZaF.l1.step]
  rw [decide_eq_false (by omega)]
  exact .pure ⟨rfl,by dsimp only;omega,by dsimp only;omega,by dsimp only;omega,ho⟩
 | j+1,k,out,p,hk,h,hp,hl,ho=>by
  rw [ZaF.l1.succ];simp only [ZaF.l1.step]
  have hd:=(Zpc k (by omega) (Zu0 (y:=1980) (mo:=1) (d:=1) (h:=0) (mi:=0) (s:=0) (by omega) (by omega) (by omega) (by omega) (by omega) (by omega) (by omega))).1
  rw [decide_eq_true (by omega),cond_true,hd]
  simp only [Zaa]
  rw [Zad (by simp)]
  refine .bind (Zgv h (by omega)) ?_
  rintro _ ⟨y,mo,d,hh,mi,s,p1,rfl,g1,g2,g3⟩
  dsimp only
  have hf:=(Zpc k (by omega) g3).2
  rw [Zad (by simp;omega),Zaf (by omega) (by omega),show (k:Int)+1=((k+1:Nat):Int) by omega]
  refine (ZnX j (k+1) _ p1 (by omega) (h.up g1) (by omega) (by simp;omega) ?_).mono ?_
  ·intro x hx
   rcases List.mem_append.1 hx with hx | hx
   ·exact ho x hx
   ·have:x=([102]++[UInt8.ofNat (48+k)],y,mo,d,hh,mi,s,[]):=by simpa using hx
    subst this;exact ⟨hf.2,hf.1⟩
  ·rintro r ⟨q1,q2,q3,q4,q5⟩
   exact ⟨q1,by omega,by omega,q4,q5⟩
theorem ZvT {b:List Int} {p:Int} (h:Zjt b p) (hp:p≤1000):Ret (ZaF b p) (ZwH b p 300 fun es=>es.length≤6∧∀e∈es,Zcb e=true∧e.1∈ZiN):=by
 unfold ZaF
 refine .bind (Zdt 5 h (by omega) (by omega) (by omega)) ?_
 rintro ⟨n,b1,p1⟩ ⟨rfl,g1,g2,g3⟩
 dsimp only at g1 g2 g3 ⊢
 obtain ⟨n,rfl⟩:=Int.eq_ofNat_of_zero_le g3.1
 rw [show ((n:Int)-0).toNat+1=n+1 by omega]
 refine .bind (ZnY n [] p1 (h.up g1) (by omega) (by omega) (by simp;omega) (by simp)) ?_
 rintro ⟨b2,p2,out⟩ ⟨rfl,k1,k2,k3,k4⟩
 dsimp only at k1 k2 k3 k4 ⊢
 refine .bind (Zdt 24 ((h.up g1).up k1) (by omega) (by omega) (by omega)) ?_
 rintro ⟨x,b3,p3⟩ ⟨rfl,l1,l2,l3⟩
 dsimp only at l1 l2 l3 ⊢
 refine .cond (fun _=>?_) fun _=>.pure ⟨rfl,by dsimp only;omega,by dsimp only;omega,by dsimp only;omega,k4⟩
 rw [show (6-((out.length:Nat):Int)).toNat+1=(6-out.length)+1 by omega]
 refine .bind (ZnX (6-out.length) out.length out p3 (by omega) (((h.up g1).up k1).up l1) (by omega) rfl k4) ?_
 rintro ⟨b4,p4,out2⟩ ⟨rfl,m1,m2,m3,m4⟩
 dsimp only at m1 m2 m3 m4 ⊢
 exact .pure ⟨rfl,by dsimp only;omega,by dsimp only;omega,m3,m4⟩
def ZwG (es:List Fil):Prop:=es.length≤7∧∀e∈es,ZuG e
theorem ZqK {b:List Int} {p:Int} (h:Zjt b p) (hp:p≤1000):Ret (Zb7 b p) (ZwH b p 1000 ZwG):=by
 unfold Zb7
 refine .bind (ZvT h hp) ?_
 rintro ⟨b1,p1,out⟩ ⟨rfl,g1,g2,g3,g4⟩
 dsimp only at g1 g2 g3 g4 ⊢
 refine .bind (Zdt 8 (h.up g1) (by omega) (by omega) (by omega)) ?_
 rintro ⟨x,b2,p2⟩ ⟨rfl,k1,k2,k3⟩
 dsimp only at k1 k2 k3 ⊢
 refine .cond (fun _=>?_) fun _=>.pure ⟨rfl,by dsimp only;omega,by dsimp only;omega,by dsimp only;omega,fun e he=>Zpd (g4 e he).1 (g4 e he).2⟩
 refine .bind (ZoW ((h.up g1).up k1) (by omega)) ?_
 rintro _ ⟨e,p3,rfl,l1,l2,l3⟩
 unfold entZ
 dsimp only
 rw [Zad (by simp;omega)]
 refine .pure ⟨rfl,by dsimp only;omega,by dsimp only;omega,by simp;omega,fun y hy=>?_⟩
 rcases List.mem_append.1 hy with hy | hy
 ·exact Zpd (g4 y hy).1 (g4 y hy).2
 ·have:y=e:=by simpa using hy
  subst this;exact l3
def Zjp (xs:List Int):Prop:=∀x∈xs,0≤x∧x≤255
theorem ZoT (xs:List Int) (h:Zjp xs) (hl:xs.length≤1048576):Ret (ZdB xs) fun r=>r.2=0∧Zjt r.1 r.2:=by
 unfold ZdB
 by_cases c:xs.length>2000
 ·rw [decide_eq_true (by omega),cond_true,Zab _ (by simp;omega)]
  refine .pure ⟨rfl,?_,fun x hx=>h x (List.mem_of_mem_take hx),by omega⟩
  rw [List.length_take];exact Nat.min_le_left ..
 ·rw [decide_eq_false (by omega),cond_false]
  exact .pure ⟨rfl,by dsimp only;omega,h,by omega⟩
theorem Zsg (xs:List Int) (h:Zjp xs) (hl:xs.length≤1048576):Ret (Zra xs) ZwG:=by
 unfold Zra
 refine .bind (ZoT xs h hl) ?_
 rintro ⟨b,p⟩ ⟨rfl,hr⟩
 dsimp only at hr ⊢
 refine .bind (ZqK hr (by omega)) ?_
 rintro ⟨b1,p1,out⟩ ⟨rfl,g1,g2,g3⟩
 exact .pure g3
end Ev
end
section
namespace Ev
open Go
theorem ZwR {es:List Fil} (h:Zgh es=true):(Ze9 es).length≤1048576:=by have:=ZgF es h;omega
theorem ZwS {es:List Fil} (h:Zgh es=true):Zcv (Ze9 es)=some (true,es):=by
 rw [Zpy _ (ZwR h),Zkl es h];rfl
theorem sm_fil {e:Fil} (h:ZuG e):e.1.length≤1048576:=by have:=h.len;omega
end Ev
end
section
namespace Ev
open Go
theorem ZvU (s:Str) (hs:s.length≤1000000) {b:List Int} {p:Int} (h:Zjt b p) (hp:p≤800000000):Ret (Zei s b p) (Zkk b p 4 fun t=>t.length≤s.length+4):=by
 unfold Zei
 by_cases c:s=[]
 ·subst c
  exact .pure ⟨rfl,by dsimp only;omega,by dsimp only;omega,by simp⟩
 rw [beq_false_of_ne c,cond_false]
 have hl:0<s.length:=List.length_pos_iff.2 c
 refine .bind (Zdt _ h (by omega) (by omega) (by omega)) ?_
 rintro ⟨k,b1,p1⟩ ⟨rfl,g1,g2,g3⟩
 dsimp only at g1 g2 g3 ⊢
 refine .bind (Zdt 5 (h.up g1) (by omega) (by omega) (by omega)) ?_
 rintro ⟨x,b2,p2⟩ ⟨rfl,k1,k2,k3⟩
 dsimp only at k1 k2 k3 ⊢
 have h2:=(h.up g1).up k1
 refine .cond (fun _=>?_) fun _=>.cond (fun _=>?_) fun _=>.cond (fun _=>?_) fun _=>.pure ⟨rfl,by dsimp only;omega,by dsimp only;omega,by dsimp only;omega⟩
 ·rw [Zab _ (by simp;omega)]
  refine .bind (Zdt 256 h2 (by omega) (by omega) (by omega)) ?_
  rintro ⟨z,b3,p3⟩ ⟨rfl,l1,l2,l3⟩
  dsimp only at l1 l2 l3 ⊢
  rw [Zaf (by omega) (by omega),Zad (by simp [Zbv];omega),Zab _ (by simp;omega),Zad (by simp [Zbv];omega)]
  refine .pure ⟨rfl,by dsimp only;omega,by dsimp only;omega,?_⟩
  simp [Zbv];omega
 ·rw [Zab _ (by simp;omega)]
  refine .pure ⟨rfl,by dsimp only;omega,by dsimp only;omega,?_⟩
  dsimp only
  rw [List.length_take];omega
 ·refine .bind (Zkx _ h2 (by omega) (by decide) (by decide)) ?_
  rintro ⟨z,b3,p3⟩ ⟨rfl,l1,l2,l3⟩
  dsimp only at l1 l2 l3 ⊢
  have hz:z.length≤4:=by
   simp only [List.mem_cons,List.not_mem_nil,or_false] at l3
   rcases l3 with rfl | rfl | rfl<;>decide
  rw [Zad (by omega)]
  refine .pure ⟨rfl,by dsimp only;omega,by dsimp only;omega,?_⟩
  dsimp only
  rw [List.length_append];omega
end Ev
end
section
namespace Ev
open Go
def Zt2:List Str:=[[97],[98,46,116,120,116],[100,105,114,47,97],[100,105,114,47,98],[120,45,121,95,122],[97,47,98,47,99,47,100],[114,101,97,100,109,101]]
def ZxL (k:Nat):Str:=[102]++[UInt8.ofNat (48+k)]
theorem Zt1:∀a∈Zt2,∀k∈List.range 6,hit (ZxL k) a=false:=by decide
theorem Zwe:∀m∈List.range 6,∀k∈List.range 6,m<k→hit (ZxL k) (ZxL m)=false:=by decide
theorem ZvR {b:List Int} {p:Int} (h:Zjt b p) (hp:p≤900000000):Ret (ZcS b p) (Zkk b p 1 fun s=>Zdu s=true∧s∈Zt2):=by
 unfold ZcS
 refine .bind (Zkx _ h (by omega) (by decide) (by decide)) ?_
 rintro ⟨x,b2,p2⟩ ⟨rfl,k1,k2,k3⟩
 dsimp only at k1 k2 k3 ⊢
 refine .pure ⟨rfl,k1,k2,?_⟩
 dsimp only
 simp only [List.mem_cons,List.not_mem_nil,or_false] at k3
 rcases k3 with rfl | rfl | rfl | rfl | rfl | rfl | rfl<;>exact ⟨by decide +kernel,by decide⟩
theorem Zui {b:List Int} {p:Int} (h:Zjt b p) (hp:p≤800000000):Ret (Zch b p) (ZwI b p 57 fun e=>Zcb e=true∧e.1∈Zt2):=by
 unfold Zch
 refine .bind (ZvR h (by omega)) ?_
 rintro ⟨nm,b1,p1⟩ ⟨rfl,g1,g2,g3⟩
 dsimp only at g1 g2 g3 ⊢
 refine .bind (Zgv (h.up g1) (by omega)) ?_
 rintro _ ⟨y,mo,d,hh,mi,s,p2,rfl,k1,k2,k3⟩
 dsimp only
 refine .bind (Zl1 ((h.up g1).up k1) (by omega)) ?_
 rintro ⟨t,b3,p3⟩ ⟨rfl,l1,l2,l3⟩
 dsimp only at l1 l2 l3 ⊢
 refine .pure ⟨(nm,y,mo,d,hh,mi,s,t),p3,rfl,by omega,by omega,?_,g3.2⟩
 unfold Zcb
 dsimp only
 rw [g3.1,k3,decide_eq_true l3];rfl
theorem ZnW {b:List Int}:∀(j:Nat) (out:List Fil) (p:Int),Zjt b p→p≤1000000+57*(4-j)→j≤4→out.length+j≤4→(Zgh out=true∧∀e∈out,e.1∈Zt2)→
  Ret (ZaF.l0 (j+1) ((j:Int),b,p,out)) fun r=>r.1=b∧p≤r.2.1∧r.2.1≤p+57*j∧r.2.2.length≤4∧Zgh r.2.2=true∧∀e∈r.2.2,e.1∈Zt2
 | 0,out,p,h,hp,hj,hl,ho=>by
  rw [ZaF.l0.succ];simp only [ZaF.l0.step]
  rw [decide_eq_false (by omega)]
  exact .pure ⟨rfl,by dsimp only;omega,by dsimp only;omega,by dsimp only;omega,ho⟩
 | j+1,out,p,h,hp,hj,hl,ho=>by
  rw [ZaF.l0.succ];simp only [ZaF.l0.step]
  rw [decide_eq_true (by omega),cond_true]
  refine .bind (Zui h (by omega)) ?_
  rintro _ ⟨e,p1,rfl,g1,g2,g3⟩
  unfold entZ
  dsimp only
  have hnl:=ZcY (Zb8 g3.1).1
  rw [ZsU out (by omega) e (by omega)]
  simp only [Zaa]
  rw [Zaf (by omega) (by omega),show ((j+1:Nat):Int)-1=(j:Int) by omega]
  refine (ZnW j _ p1 (h.up g1) (by omega) (by omega) ?_ ?_).mono ?_
  ·split
   ·simp;omega
   ·omega
  ·split
   ·rename_i hc
    refine ⟨(Zx5 ho.1 hc).1,fun x hx=>?_⟩
    rcases List.mem_append.1 hx with hx | hx
    ·exact ho.2 x hx
    ·have:x=e:=by simpa using hx
     subst this;exact g3.2
   ·exact ho
  ·rintro r ⟨q1,q2,q3,q4,q5⟩
   exact ⟨q1,by omega,by omega,q4,q5⟩
theorem ZwQ {es:List Fil} {e:Fil} (h:Zgh es=true) (h6:es.length<6) (hf:Zcb e=true) (hn:∀x∈es,hit e.1 x.1=false):Zgh (es++[e])=true:=by
 obtain ⟨h1,h2,h3⟩:=(ZkR es).1 h
 rw [ZkR]
 refine ⟨fun x hx=>?_,by simp;omega,?_⟩
 ·rcases List.mem_append.1 hx with hx | hx
  ·exact h1 x hx
  ·have:x=e:=by simpa using hx
   subst this;exact hf
 ·rw [List.map_append]
  refine List.pairwise_append.2 ⟨h3,by simp,fun a ha b hb=>?_⟩
  have:b=e.1:=by simpa using hb
  subst this
  obtain ⟨x,hx,rfl⟩:=List.mem_map.1 ha
  exact hn x hx
theorem ZnV {b:List Int}:∀(j k:Nat) (out:List Fil) (p:Int),k+j=6→Zjt b p→p≤2000000+6*(6-j)→out.length=k→Zgh out=true→(∀e∈out,e.1∈Zt2∨∃m,m<k∧e.1=ZxL m)→
  Ret (ZaF.l1 (j+1) ((k:Int),b,p,out)) fun r=>r.1=b∧p≤r.2.1∧r.2.1≤p+6*j∧Zgh r.2.2=true
 | 0,k,out,p,hk,h,hp,hl,hz,ho=>by
  rw [ZaF.l1.succ];simp only [ZaF.l1.step]
  rw [decide_eq_false (by omega)]
  exact .pure ⟨rfl,by dsimp only;omega,by dsimp only;omega,hz⟩
 | j+1,k,out,p,hk,h,hp,hl,hz,ho=>by
  rw [ZaF.l1.succ];simp only [ZaF.l1.step]
  have hd:=(Zpc k (by omega) (Zu0 (y:=1980) (mo:=1) (d:=1) (h:=0) (mi:=0) (s:=0) (by omega) (by omega) (by omega) (by omega) (by omega) (by omega) (by omega))).1
  rw [decide_eq_true (by omega),cond_true,hd]
  simp only [Zaa]
  rw [Zad (by simp)]
  refine .bind (Zgv h (by omega)) ?_
  rintro _ ⟨y,mo,d,hh,mi,s,p1,rfl,g1,g2,g3⟩
  dsimp only
  have hf:=(Zpc k (by omega) g3).2
  rw [Zad (by simp;omega),Zaf (by omega) (by omega),show (k:Int)+1=((k+1:Nat):Int) by omega]
  refine (ZnV j (k+1) _ p1 (by omega) (h.up g1) (by omega) (by simp;omega) ?_ ?_).mono ?_
  ·refine ZwQ hz (by omega) hf.2 (fun x hx=>?_)
   rcases ho x hx with q | ⟨m,hm,q⟩
   ·exact Zt1 x.1 q k (List.mem_range.2 (by omega))
   ·rw [q];exact Zwe m (List.mem_range.2 (by omega)) k (List.mem_range.2 (by omega)) hm
  ·intro x hx
   rcases List.mem_append.1 hx with hx | hx
   ·rcases ho x hx with q | ⟨m,hm,q⟩
    ·exact .inl q
    ·exact .inr ⟨m,by omega,q⟩
   ·have:x=([102]++[UInt8.ofNat (48+k)],y,mo,d,hh,mi,s,[]):=by simpa using hx
    subst this;exact .inr ⟨k,by omega,rfl⟩
  ·rintro r ⟨q1,q2,q3,q4⟩
   exact ⟨q1,by omega,by omega,q4⟩
theorem ZvS {b:List Int} {p:Int} (h:Zjt b p) (hp:p≤1000):Ret (ZaF b p) (ZwH b p 300 fun es=>Zgh es=true):=by
 unfold ZaF
 refine .bind (Zdt 5 h (by omega) (by omega) (by omega)) ?_
 rintro ⟨n,b1,p1⟩ ⟨rfl,g1,g2,g3⟩
 dsimp only at g1 g2 g3 ⊢
 obtain ⟨n,rfl⟩:=Int.eq_ofNat_of_zero_le g3.1
 rw [show ((n:Int)-0).toNat+1=n+1 by omega]
 refine .bind (ZnW n [] p1 (h.up g1) (by omega) (by omega) (by simp;omega) ⟨rfl,by simp⟩) ?_
 rintro ⟨b2,p2,out⟩ ⟨rfl,k1,k2,k3,k4,k5⟩
 dsimp only at k1 k2 k3 k4 k5 ⊢
 refine .bind (Zdt 24 ((h.up g1).up k1) (by omega) (by omega) (by omega)) ?_
 rintro ⟨x,b3,p3⟩ ⟨rfl,l1,l2,l3⟩
 dsimp only at l1 l2 l3 ⊢
 refine .cond (fun _=>?_) fun _=>.pure ⟨rfl,by dsimp only;omega,by dsimp only;omega,k4⟩
 rw [show (6-((out.length:Nat):Int)).toNat+1=(6-out.length)+1 by omega]
 refine .bind (ZnV (6-out.length) out.length out p3 (by omega) (((h.up g1).up k1).up l1) (by omega) rfl k4 (fun e he=>.inl (k5 e he))) ?_
 rintro ⟨b4,p4,out2⟩ ⟨rfl,m1,m2,m3⟩
 dsimp only at m1 m2 m3 ⊢
 exact .pure ⟨rfl,by dsimp only;omega,by dsimp only;omega,m3⟩
theorem Zs6 {b:List Int} {p:Int} (h:Zjt b p) (hp:p≤1000):Ret (ZfE b p) (Zkk b p 300 fun s=>∃es,Zgh es=true∧s=Ze9 es):=by
 unfold ZfE
 refine .bind (ZvS h hp) ?_
 rintro ⟨b1,p1,es⟩ ⟨rfl,g1,g2,g3⟩
 dsimp only at g1 g2 g3 ⊢
 rw [ZsW es (by have:=(ZhF g3).2;omega) (ZhF g3).1]
 simp only [Zaa]
 exact .pure ⟨rfl,g1,g2,es,g3,rfl⟩
theorem Zpg (xs:List Int) (h:Zjp xs) (hl:xs.length≤1048576):Ret (Zb9 xs) ZwG:=Zsg xs h hl
theorem Zge (xs:List Int) (h:Zjp xs) (hl:xs.length≤1048576):Ret (ZaR xs) fun r=>∃es fs,Zgh es=true∧Zgh fs=true∧r.1=Ze9 es∧r.2.1=[]∧r.2.2.1=Ze9 fs:=by
 unfold ZaR
 refine .bind (ZoT xs h hl) ?_
 rintro ⟨b,p⟩ ⟨rfl,hr⟩
 dsimp only at hr ⊢
 refine .bind (Zs6 hr (by omega)) ?_
 rintro ⟨s,b1,p1⟩ ⟨rfl,g1,g2,es,g3,g4⟩
 dsimp only at g1 g2 g4 ⊢
 refine .bind (Zs6 (hr.up g1) (by omega)) ?_
 rintro ⟨t,b2,p2⟩ ⟨rfl,k1,k2,fs,k3,k4⟩
 dsimp only at k1 k2 k4 ⊢
 refine .bind (Zdt 200 ((hr.up g1).up k1) (by omega) (by omega) (by omega)) ?_
 rintro ⟨x,b3,p3⟩ ⟨rfl,l1,l2,l3⟩
 dsimp only at l1 l2 l3 ⊢
 refine .bind (ZrK _ (((hr.up g1).up k1).up l1) (by omega) (by simp) (by simp)) ?_
 rintro ⟨y,b4,p4⟩ ⟨rfl,m1,m2,m3⟩
 dsimp only at m1 m2 m3 ⊢
 exact .pure ⟨es,fs,g3,k3,g4,rfl,k4⟩
end Ev
end
section
namespace Ev
open Go
theorem Zrl (xs:List Fil) (hn:xs.length≤1048576):∀(j i:Nat),i+j=xs.length→Zc5.l0 (j+1) (xs,xs,(i:Int))=some (.inl ())
 | 0,i,h=>by
  rw [Zc5.l0.succ];simp only [Zc5.l0.step]
  rw [ZaZ (by omega)];rfl
 | j+1,i,h=>by
  have hi:i<xs.length:=by omega
  rw [Zc5.l0.succ];simp only [Zc5.l0.step]
  rw [ZaY hi,cond_true,Zab _ ZaB,Zab _ ZaB]
  simp only [beq_self_eq_true,Bool.and_self,Bool.not_true,cond_false]
  rw [Zaf (by omega) (by omega),show (i:Int)+1=((i+1:Nat):Int) by omega]
  exact Zrl xs hn j (i+1) (by omega)
theorem Zsk (xs:List Fil) (hn:xs.length≤1048576):Zc5 xs xs=some true:=by
 unfold Zc5
 have h:=Zrl xs hn xs.length 0 (by omega)
 rw [show ((0:Nat):Int)=0 from rfl] at h
 rw [ZaJ,h]
 simp
theorem Zd0 (a b:Str):Zcs a b a b=some true:=by unfold Zcs;simp
end Ev
end
