/- Plain laws about what the functions compute. Conditions: as stated. -/
import Derived.Lib.Bytealg
import Derived.Test.YtadeffpcedlalaaGreatDoorAGB1
set_option linter.unusedVariables false
set_option linter.unusedSimpArgs false
section
namespace Ev
open Go
def leB (n:Nat):Nat→Str
 | 0=>[]
 | k+1=>UInt8.ofNat (n%256)::leB (n/256) k
def leV:Str→Nat
 | []=>0
 | c::r=>c.toNat+256*leV r
def leN (s:Str) (a k:Nat):Nat:=leV ((s.drop a).take k)
theorem ZaK (n k:Nat):(leB n k).length=k:=by
 induction k generalizing n with
 | zero=>rfl
 | succ k ih=>simp [leB,ih]
theorem Zxc:∀s:Str,leV s<256^s.length
 | []=>by simp [leV]
 | c::r=>by
  have:=Zxc r
  have hc:c.toNat<256:=UInt8.toNat_lt _
  simp only [leV,List.length_cons,Nat.pow_succ]
  omega
theorem Zrk (k:Nat):∀n,leV (leB n k)=n%256^k:=by
 induction k with
 | zero=>intro n;simp [leB,leV,Nat.mod_one]
 | succ k ih=>
  intro n
  simp only [leB,leV,ih]
  rw [UInt8.toNat_ofNat_of_lt' (by omega:n%256<256),Nat.pow_succ,Nat.mul_comm (256^k),Nat.mod_mul]
theorem Zrm:∀s:Str,leB (leV s) s.length=s
 | []=>rfl
 | c::r=>by
  have hc:c.toNat<256:=UInt8.toNat_lt _
  simp only [List.length_cons,leB,leV]
  rw [show (c.toNat+256*leV r)/256=leV r by omega,show (c.toNat+256*leV r)%256=c.toNat by omega,Zrm r]
  simp
theorem Zge (s:Str) (a k:Nat):leN s a k<256^k:=by
 have h:=Zxc ((s.drop a).take k)
 have:256^((s.drop a).take k).length≤256^k:=Nat.pow_le_pow_right (by omega) (by rw [List.length_take];omega)
 unfold leN;omega
theorem Zpz (K:Nat) (hK:K≤1000):∀(j i:Nat) (n:Nat) (out:List Int),i+j=K→n<9223372036854775808→out.length=i→
  Zbs.l0 (j+1) ((n:Int),(K:Int),(i:Int),out)=some (out++(leB n j).map fun c=>(c.toNat:Int))
 | 0,i,n,out,h,hn,ho=>by
  rw [Zbs.l0.succ];simp only [Zbs.l0.step]
  rw [ZaZ (by omega)];simp [leB]
 | j+1,i,n,out,h,hn,ho=>by
  rw [Zbs.l0.succ];simp only [Zbs.l0.step]
  rw [ZaY (by omega),cond_true,Zad (by simp;omega),Zaz (by omega),Zax (by omega),show (n:Int)%256=((n%256:Nat):Int) by omega,wrap_u8 _ (by omega),show (n:Int)/256=((n/256:Nat):Int) by omega,
   Zaf (by omega) (by omega),Zaf (by omega) (by omega),show (i:Int)+1=((i+1:Nat):Int) by omega,Zpz K hK j (i+1) (n/256) _ (by omega) (by omega) (by simp [ho])]
  simp only [leB,List.map_cons]
  rw [UInt8.toNat_ofNat_of_lt' (by omega:n%256<256)]
  simp
theorem Zg1 (s:Str):Zbf (s.map fun c=>(c.toNat:Int))=s:=by
 unfold Zbf
 rw [List.map_map]
 have:∀c:UInt8,((fun n:Int=>UInt8.ofNat n.toNat) ∘ fun c:UInt8=>(c.toNat:Int)) c=c:=fun c=>by simp
 induction s with
 | nil=>rfl
 | cons c r ih=>rw [List.map_cons,this,ih]
theorem Zcq (n k:Nat) (hn:n<9223372036854775808) (hk:k≤1000):Zbs (n:Int) (k:Int)=some (leB n k):=by
 have h:=Zpz k hk k 0 n [] (by omega) hn rfl
 rw [show ((0:Nat):Int)=0 from rfl,List.nil_append] at h
 unfold Zbs
 rw [Int.sub_zero,Int.toNat_natCast,h]
 simp only [Zaa]
 rw [Zg1]
theorem Zno (K:Nat) (hK:K≤1000):∀(j i:Nat) (n:Nat) (out:List Int),i+j=K→n<9223372036854775808→out.length=i→
  Zav.l0 (j+1) ((n:Int),(K:Int),(i:Int),out)=some (out++(leB n j).map fun c=>(c.toNat:Int))
 | 0,i,n,out,h,hn,ho=>by
  rw [Zav.l0.succ];simp only [Zav.l0.step]
  rw [ZaZ (by omega)];simp [leB]
 | j+1,i,n,out,h,hn,ho=>by
  rw [Zav.l0.succ];simp only [Zav.l0.step]
  rw [ZaY (by omega),cond_true,Zad (by simp;omega),Zaz (by omega),Zax (by omega),show (n:Int)%256=((n%256:Nat):Int) by omega,wrap_u8 _ (by omega),show (n:Int)/256=((n/256:Nat):Int) by omega,
   Zaf (by omega) (by omega),Zaf (by omega) (by omega),show (i:Int)+1=((i+1:Nat):Int) by omega,Zno K hK j (i+1) (n/256) _ (by omega) (by omega) (by simp [ho])]
  simp only [leB,List.map_cons]
  rw [UInt8.toNat_ofNat_of_lt' (by omega:n%256<256)]
  simp
theorem Zbb (n k:Nat) (hn:n<9223372036854775808) (hk:k≤1000):Zav (n:Int) (k:Int)=some (leB n k):=by
 have h:=Zno k hk k 0 n [] (by omega) hn rfl
 rw [show ((0:Nat):Int)=0 from rfl,List.nil_append] at h
 unfold Zav
 rw [Int.sub_zero,Int.toNat_natCast,h]
 simp only [Zaa]
 rw [Zg1]
theorem Zsf (s:Str) (a m:Nat) (h:a<s.length):leN s a (m+1)=(s.getD a 0).toNat+256*leN s (a+1) m:=by
 unfold leN
 rw [List.drop_eq_getElem_cons h,List.take_succ_cons,leV,Zam h]
theorem Zlo (s:Str) (a:Nat) (K:Nat) (hK:K≤4) (hs:s.length≤1000000000) (h:a+K≤s.length):∀(j m:Nat),j+m=K→
  Za6.l0 (j+1) (s,(a:Int),((leN s (a+j) m:Nat):Int),(j:Int)-1)=some ((leN s a K:Nat):Int)
 | 0,m,hm=>by
  rw [Za6.l0.succ];simp only [Za6.l0.step]
  rw [decide_eq_false (by omega),show m=K by omega];rfl
 | j+1,m,hm=>by
  have hb:=Zge s (a+(j+1)) m
  have hp:256^m≤256^4:=Nat.pow_le_pow_right (by omega) (by omega)
  have hc:(s.getD (a+j) 0).toNat<256:=UInt8.toNat_lt _
  have hst:=Zsf s (a+j) m (by omega)
  rw [Za6.l0.succ];simp only [Za6.l0.step]
  rw [show ((j+1:Nat):Int)-1=(j:Int) by omega,decide_eq_true (by omega),cond_true,Zaf (n:=(a:Int)+(j:Int)) (by omega) (by omega),show (a:Int)+(j:Int)=((a+j:Nat):Int) by omega,Zab _ (Zaw (by omega)),Int.toNat_natCast,
   Zaf (n:=((s.getD (a+j) 0).toNat:Int)) (by omega) (by omega),Zaf (n:=256*((leN s (a+(j+1)) m:Nat):Int)) (by omega) (by omega),Zaf (by omega) (by omega),Zaf (by omega) (by omega)]
  have e:256*((leN s (a+(j+1)) m:Nat):Int)+((s.getD (a+j) 0).toNat:Int)=((leN s (a+j) (m+1):Nat):Int):=by
   rw [hst,Nat.add_assoc];omega
  rw [e]
  exact Zlo s a K hK hs h j (m+1) (by omega)
theorem Zfk (s:Str) (a K:Nat) (hK:K≤4) (hK1:1≤K) (hs:s.length≤1000000000) (h:a+K≤s.length):Za6 s (a:Int) (K:Int)=some ((leN s a K:Nat):Int):=by
 have e:=Zlo s a K hK hs h K 0 (by omega)
 rw [show leN s (a+K) 0=0 by simp [leN,leV],show ((0:Nat):Int)=0 from rfl] at e
 unfold Za6
 rw [Zaf (by omega) (by omega),show ((K:Int)-1-0).toNat+2=K+1 by omega,e]
 rfl
theorem Zsl (s:Str) (a:Nat) (K:Nat) (hK:K≤4) (hs:s.length≤1000000000) (h:a+K≤s.length):∀(j m:Nat),j+m=K→
  Zb7.l0 (j+1) (s,(a:Int),((leN s (a+j) m:Nat):Int),(j:Int)-1)=some ((leN s a K:Nat):Int)
 | 0,m,hm=>by
  rw [Zb7.l0.succ];simp only [Zb7.l0.step]
  rw [decide_eq_false (by omega),show m=K by omega];rfl
 | j+1,m,hm=>by
  have hb:=Zge s (a+(j+1)) m
  have hp:256^m≤256^4:=Nat.pow_le_pow_right (by omega) (by omega)
  have hc:(s.getD (a+j) 0).toNat<256:=UInt8.toNat_lt _
  have hst:=Zsf s (a+j) m (by omega)
  rw [Zb7.l0.succ];simp only [Zb7.l0.step]
  rw [show ((j+1:Nat):Int)-1=(j:Int) by omega,decide_eq_true (by omega),cond_true,Zaf (n:=(a:Int)+(j:Int)) (by omega) (by omega),show (a:Int)+(j:Int)=((a+j:Nat):Int) by omega,Zab _ (Zaw (by omega)),Int.toNat_natCast,
   Zaf (n:=((s.getD (a+j) 0).toNat:Int)) (by omega) (by omega),Zaf (n:=256*((leN s (a+(j+1)) m:Nat):Int)) (by omega) (by omega),Zaf (by omega) (by omega),Zaf (by omega) (by omega)]
  have e:256*((leN s (a+(j+1)) m:Nat):Int)+((s.getD (a+j) 0).toNat:Int)=((leN s (a+j) (m+1):Nat):Int):=by
   rw [hst,Nat.add_assoc];omega
  rw [e]
  exact Zsl s a K hK hs h j (m+1) (by omega)
theorem Zoo (s:Str) (a K:Nat) (hK:K≤4) (hK1:1≤K) (hs:s.length≤1000000000) (ha:a≤2000000000):Zb7 s (a:Int) (K:Int)=some (if a+K≤s.length then ((leN s a K:Nat):Int) else -1):=by
 unfold Zb7
 rw [decide_eq_false (by omega),cond_false,Zaf (by omega) (by omega)]
 simp only [Zaa]
 by_cases h:a+K≤s.length
 ·have e:=Zsl s a K hK hs h K 0 (by omega)
  rw [show leN s (a+K) 0=0 by simp [leN,leV],show ((0:Nat):Int)=0 from rfl] at e
  rw [if_pos h,decide_eq_false (by omega),cond_false,Zaf (by omega) (by omega),show ((K:Int)-1-0).toNat+2=K+1 by omega,e]
  rfl
 ·rw [if_neg h,decide_eq_true (by omega),cond_true]
end Ev
end
section
namespace Ev
open Go
theorem Zrn:Zgg=ZnN:=rfl
theorem Zvw (y mo:Int):∃n,ZnN y mo=some n∧n≤31:=by
 unfold ZnN
 cases (mo==4)<;>cases (mo==6)<;>cases (mo==9)<;>cases (mo==11)<;>simp only [cond_true,cond_false,Zaa]<;>first
  | exact ⟨30,rfl,by omega⟩
  | (cases (mo==2)<;>simp only [cond_true,cond_false,Zaa]<;>first
    | exact ⟨31,rfl,by omega⟩
    | (cases (y.tmod 4==0)<;>simp only [cond_true,cond_false,Zaa]<;>first
      | exact ⟨28,rfl,by omega⟩
      | (cases (y.tmod 100 != 0)<;>simp only [cond_true,cond_false,Zaa]<;>first
        | exact ⟨29,rfl,by omega⟩
        | (cases (y.tmod 400==0)<;>first
          | exact ⟨29,rfl,by omega⟩
          | exact ⟨28,rfl,by omega⟩))))
theorem ZwU (y mo:Int):∃n,ZnN y mo=some n:=by
 obtain ⟨n,h,_⟩:=Zvw y mo
 exact ⟨n,h⟩
def ZmI (y mo:Int):Int:=(ZnN y mo).getD 0
theorem Zvx (y mo:Int):ZnN y mo=some (ZmI y mo):=by
 obtain ⟨n,h⟩:=ZwU y mo
 unfold ZmI;rw [h];rfl
def stM (y mo d h mi sec:Int):Bool:=decide (1980≤y∧y≤2107)&&(decide (1≤mo∧mo≤12)&&(decide (1≤d∧d≤ZmI y mo)&&(decide (0≤h∧h≤23)&&(decide (0≤mi∧mi≤59)&&(decide (0≤sec∧sec≤58)&&(sec.tmod 2==0))))))
theorem Zje (y mo d h mi sec:Int):Zdm y mo d h mi sec=some (stM y mo d h mi sec):=by
 unfold Zdm stM
 simp only [ZdE,Zvx,Zaa]
 cases decide (1980≤y∧y≤2107)<;>cases decide (1≤mo∧mo≤12)<;>cases decide (1≤d∧d≤ZmI y mo)<;>cases decide (0≤h∧h≤23)<;>cases decide (0≤mi∧mi≤59)<;>cases decide (0≤sec∧sec≤58)<;>rfl
theorem Zmw (y mo d h mi sec:Int):ZbT y mo d h mi sec=some (stM y mo d h mi sec):=by
 unfold ZbT stM
 rw [Zrn]
 simp only [ZkG,Zvx,Zaa]
 cases decide (1980≤y∧y≤2107)<;>cases decide (1≤mo∧mo≤12)<;>cases decide (1≤d∧d≤ZmI y mo)<;>cases decide (0≤h∧h≤23)<;>cases decide (0≤mi∧mi≤59)<;>cases decide (0≤sec∧sec≤58)<;>rfl
theorem ZwV (y mo:Int):ZmI y mo≤31:=by
 obtain ⟨n,h,hn⟩:=Zvw y mo
 unfold ZmI;rw [h];exact hn
def stN (y mo d h mi sec:Nat):Nat:=sec/2+mi*32+h*2048+d*65536+mo*2097152+(y-1980)*33554432
theorem Zjf {y mo d h mi sec:Int} (hk:stM y mo d h mi sec=true):∃y' mo' d' h' mi' sec':Nat,y=y'∧mo=mo'∧d=d'∧h=h'∧mi=mi'∧sec=sec'∧1980≤y'∧y'≤2107∧1≤mo'∧mo'≤12∧1≤d'∧d'≤31∧h'≤23∧mi'≤59∧sec'≤58∧sec'%2=0:=by
 simp only [stM,Bool.and_eq_true,decide_eq_true_eq,beq_iff_eq] at hk
 obtain ⟨⟨a1,a2⟩,⟨b1,b2⟩,⟨c1,c2⟩,⟨d1,d2⟩,⟨e1,e2⟩,⟨f1,f2⟩,g⟩:=hk
 have:=ZwV y mo
 rw [Zaz f1] at g
 exact ⟨y.toNat,mo.toNat,d.toNat,h.toNat,mi.toNat,sec.toNat,by omega,by omega,by omega,by omega,by omega,by omega,by omega,by omega,by omega,by omega,by omega,by omega,by omega,by omega,by omega,by omega⟩
theorem Zk2 {y mo d h mi sec:Nat} (hk:stM y mo d h mi sec=true):Zci y mo d h mi sec=some ((stN y mo d h mi sec:Nat):Int):=by
 obtain ⟨y',mo',d',h',mi',sec',e1,e2,e3,e4,e5,e6,b⟩:=Zjf hk
 obtain rfl:y=y':=by omega
 obtain rfl:mo=mo':=by omega
 obtain rfl:d=d':=by omega
 obtain rfl:h=h':=by omega
 obtain rfl:mi=mi':=by omega
 obtain rfl:sec=sec':=by omega
 obtain ⟨b1,b2,b3,b4,b5,b6,b7,b8,b9,b10⟩:=b
 unfold Zci
 rw [Zje,hk]
 simp only [Zaa,Bool.not_true,cond_false]
 have s1:=ZeB mi 5 (by omega) (by omega)
 have s2:=ZeB h 11 (by omega) (by omega)
 have s3:=ZeB d 16 (by omega) (by omega)
 have s4:=ZeB mo 21 (by omega) (by omega)
 have s5:=ZeB (y-1980) 25 (by omega) (by omega)
 rw [show ((5:Nat):Int)=5 from rfl] at s1
 rw [show ((11:Nat):Int)=11 from rfl] at s2
 rw [show ((16:Nat):Int)=16 from rfl] at s3
 rw [show ((21:Nat):Int)=21 from rfl] at s4
 rw [show ((25:Nat):Int)=25 from rfl] at s5
 rw [Zax (by omega),show (sec:Int)/2=((sec/2:Nat):Int) by omega,Zaf (by omega) (by omega),Zaf (by omega) (by omega),show (y:Int)-1980=((y-1980:Nat):Int) by omega,s1,s2,s3,s4,s5]
 rw [ZjE _ _ (by omega) (by omega),Zlm (sec/2) mi 5 (by omega)]
 rw [ZjE _ _ (by omega) (by omega),Zlm _ h 11 (by omega)]
 rw [ZjE _ _ (by omega) (by omega),Zlm _ d 16 (by omega)]
 rw [ZjE _ _ (by omega) (by omega),Zlm _ mo 21 (by omega)]
 rw [ZjE _ _ (by omega) (by omega),Zlm _ (y-1980) 25 (by omega)]
 rfl
theorem Zpa {y mo d h mi sec:Int} (hk:stM y mo d h mi sec=false):Zci y mo d h mi sec=some (-1):=by
 unfold Zci
 rw [Zje,hk];rfl
theorem ZwC {y mo d h mi sec:Nat} (hk:stM y mo d h mi sec=true):Ziz y mo d h mi sec=some ((stN y mo d h mi sec:Nat):Int):=by
 obtain ⟨y',mo',d',h',mi',sec',e1,e2,e3,e4,e5,e6,b⟩:=Zjf hk
 obtain rfl:y=y':=by omega
 obtain rfl:mo=mo':=by omega
 obtain rfl:d=d':=by omega
 obtain rfl:h=h':=by omega
 obtain rfl:mi=mi':=by omega
 obtain rfl:sec=sec':=by omega
 obtain ⟨b1,b2,b3,b4,b5,b6,b7,b8,b9,b10⟩:=b
 unfold Ziz
 rw [Zax (by omega)]
 rw [Zaf (n:=(y:Int)-1980) (by omega) (by omega)]
 rw [Zaf (n:=((y:Int)-1980)*16) (by omega) (by omega)]
 rw [Zaf (n:=((y:Int)-1980)*16+mo) (by omega) (by omega)]
 rw [Zaf (n:=(((y:Int)-1980)*16+mo)*32) (by omega) (by omega)]
 rw [Zaf (n:=(((y:Int)-1980)*16+mo)*32+d) (by omega) (by omega)]
 rw [Zaf (n:=((((y:Int)-1980)*16+mo)*32+d)*32) (by omega) (by omega)]
 rw [Zaf (n:=((((y:Int)-1980)*16+mo)*32+d)*32+h) (by omega) (by omega)]
 rw [Zaf (n:=(((((y:Int)-1980)*16+mo)*32+d)*32+h)*64) (by omega) (by omega)]
 rw [Zaf (n:=(((((y:Int)-1980)*16+mo)*32+d)*32+h)*64+mi) (by omega) (by omega)]
 rw [Zaf (n:=((((((y:Int)-1980)*16+mo)*32+d)*32+h)*64+mi)*32) (by omega) (by omega)]
 rw [Zaf (n:=(sec:Int)/2) (by omega) (by omega)]
 rw [Zaf (by omega) (by omega)]
 unfold stN
 congr 1
 omega
structure Stm where
 y:Nat
 mo:Nat
 d:Nat
 h:Nat
 mi:Nat
 sec:Nat
def stG (n:Nat):Stm:=⟨n/33554432+1980,n/2097152%16,n/65536%32,n/2048%32,n/32%64,2*(n%32)⟩
theorem ZwD (n:Nat) (hn:n<4294967296):ZiA (n:Int)=some (((stG n).y:Int),((stG n).mo:Int),((stG n).d:Int),((stG n).h:Int),((stG n).mi:Int),((stG n).sec:Int)):=by
 unfold ZiA stG
 rw [Zax (a:=(n:Int)) (by omega),Zaf (n:=(n:Int)/32) (by omega) (by omega)]
 rw [Zax (a:=(n:Int)/32) (by omega),Zaf (n:=(n:Int)/32/64) (by omega) (by omega)]
 rw [Zax (a:=(n:Int)/32/64) (by omega),Zaf (n:=(n:Int)/32/64/32) (by omega) (by omega)]
 rw [Zax (a:=(n:Int)/32/64/32) (by omega),Zaf (n:=(n:Int)/32/64/32/32) (by omega) (by omega)]
 rw [Zax (a:=(n:Int)/32/64/32/32) (by omega),Zaf (n:=(n:Int)/32/64/32/32/16) (by omega) (by omega)]
 rw [Zaf (n:=(n:Int)/32/64/32/32/16+1980) (by omega) (by omega),Zaz (by omega),Zaz (by omega),Zaz (by omega),Zaz (by omega),Zaz (by omega),Zaf (by omega) (by omega)]
 dsimp only
 congr 1
 refine Prod.ext ?_ (Prod.ext ?_ (Prod.ext ?_ (Prod.ext ?_ (Prod.ext ?_ ?_))))<;>dsimp only<;>omega
theorem Zuf (n:Nat) (hn:n<4294967296):stN (stG n).y (stG n).mo (stG n).d (stG n).h (stG n).mi (stG n).sec=n:=by
 unfold stN stG
 dsimp only
 omega
set_option maxRecDepth 100000 in
theorem Zn5 {y mo d h mi sec:Nat} (hk:stM y mo d h mi sec=true):stG (stN y mo d h mi sec)=⟨y,mo,d,h,mi,sec⟩∧stN y mo d h mi sec<4294967296:=by
 obtain ⟨y',mo',d',h',mi',sec',e1,e2,e3,e4,e5,e6,b⟩:=Zjf hk
 obtain rfl:y=y':=by omega
 obtain rfl:mo=mo':=by omega
 obtain rfl:d=d':=by omega
 obtain rfl:h=h':=by omega
 obtain rfl:mi=mi':=by omega
 obtain rfl:sec=sec':=by omega
 obtain ⟨b1,b2,b3,b4,b5,b6,b7,b8,b9,b10⟩:=b
 unfold stG stN
 constructor
 ·congr 1<;>omega
 ·omega
theorem Zgk (x k:Nat) (hk:k≤32) (hx:x<9223372036854775808):Zkj .i64 (x:Int) ((2^k-1:Nat):Int)=((x%2^k:Nat):Int):=by
 have hp:2^k≤2^32:=Nat.pow_le_pow_right (by omega) hk
 rw [Zsz _ _ hx (by omega),Nat.and_two_pow_sub_one_eq_mod]
theorem Zq5 (n:Nat) (hn:n<4294967296):Zds (n:Int)=some (if stM (stG n).y (stG n).mo (stG n).d (stG n).h (stG n).mi (stG n).sec then
  (((stG n).y:Int),((stG n).mo:Int),((stG n).d:Int),((stG n).h:Int),((stG n).mi:Int),((stG n).sec:Int),true) else (0,0,0,0,0,0,false)):=by
 have m1:=Zgk (n/2^25) 7 (by omega) (by omega)
 have m2:=Zgk (n/2^21) 4 (by omega) (by omega)
 have m3:=Zgk (n/2^16) 5 (by omega) (by omega)
 have m4:=Zgk (n/2^11) 5 (by omega) (by omega)
 have m5:=Zgk (n/2^5) 6 (by omega) (by omega)
 have m6:=Zgk n 5 (by omega) (by omega)
 have r1:=Ze9 n 25 (by omega)
 have r2:=Ze9 n 21 (by omega)
 have r3:=Ze9 n 16 (by omega)
 have r4:=Ze9 n 11 (by omega)
 have r5:=Ze9 n 5 (by omega)
 rw [show ((25:Nat):Int)=25 from rfl] at r1
 rw [show ((21:Nat):Int)=21 from rfl] at r2
 rw [show ((16:Nat):Int)=16 from rfl] at r3
 rw [show ((11:Nat):Int)=11 from rfl] at r4
 rw [show ((5:Nat):Int)=5 from rfl] at r5
 rw [show ((2^7-1:Nat):Int)=127 from rfl] at m1
 rw [show ((2^4-1:Nat):Int)=15 from rfl] at m2
 rw [show ((2^5-1:Nat):Int)=31 from rfl] at m3 m4 m6
 rw [show ((2^6-1:Nat):Int)=63 from rfl] at m5
 have f1:w64 (1980+((n/2^25%2^7:Nat):Int))=((stG n).y:Int):=by
  rw [Zaf (by omega) (by omega)];unfold stG;dsimp only;omega
 have f2:((n/2^21%2^4:Nat):Int)=((stG n).mo:Int):=rfl
 have f3:((n/2^16%2^5:Nat):Int)=((stG n).d:Int):=rfl
 have f4:((n/2^11%2^5:Nat):Int)=((stG n).h:Int):=rfl
 have f5:((n/2^5%2^6:Nat):Int)=((stG n).mi:Int):=rfl
 have f6:w64 (((n%2^5:Nat):Int)*2)=((stG n).sec:Int):=by
  rw [Zaf (by omega) (by omega)];unfold stG;dsimp only;omega
 unfold Zds
 rw [decide_eq_false (by omega),cond_false,r1,r2,r3,r4,r5,m1,m2,m3,m4,m5,m6,f1,f2,f3,f4,f5,f6]
 cases hk:stM (stG n).y (stG n).mo (stG n).d (stG n).h (stG n).mi (stG n).sec with
 | true=>
  rw [Zk2 hk,Zuf n hn]
  simp only [Zaa]
  rw [show ((n:Int) != (n:Int))=false by simp,cond_false]
  rfl
 | false=>
  rw [Zpa hk]
  simp only [Zaa]
  rw [show ((-1:Int) != (n:Int))=true by simp only [bne_iff_ne,ne_eq];omega,cond_true]
  rfl
end Ev
end
section
namespace Ev
open Go
def Zbz (b:UInt8):Str→List Str
 | []=>[[]]
 | c::s=>if c=b then []::Zbz b s else match Zbz b s with
  | p::r=>(c::p)::r
  | []=>[[c]]
theorem ZeC (b:UInt8):∀s,Zbz b s≠[]
 | []=>by simp [Zbz]
 | c::s=>by
  simp only [Zbz]
  split
  ·simp
  ·split<;>simp
def ZwM (p:Str):List Str→List Str
 | []=>[p]
 | q::r=>(p++q)::r
theorem ZtR (b:UInt8) (c:UInt8) (p s:Str) (h:c≠b):ZwM p (Zbz b (c::s))=ZwM (p++[c]) (Zbz b s):=by
 simp only [Zbz,if_neg h]
 cases hc:Zbz b s with
 | nil=>exact absurd hc (ZeC b s)
 | cons q r=>simp [ZwM]
theorem Zvy (b:UInt8) (p s:Str):ZwM p (Zbz b (b::s))=p::Zbz b s:=by
 simp [Zbz,ZwM]
theorem ZsB (l:List Str) (h:l≠[]):ZwM [] l=l:=by cases l<;>simp_all [ZwM]
theorem ZiO (b:UInt8):∀s,(Zbz b s).length≤s.length+1
 | []=>by simp [Zbz]
 | c::s=>by
  have:=ZiO b s
  simp only [Zbz]
  split
  ·simp;omega
  ·cases hc:Zbz b s with
   | nil=>simp
   | cons q r=>rw [hc] at this;simp at this ⊢;omega
theorem ZvE (x:UInt8) (c:Nat) (hc:c<256):(((x.toNat:Int))==(c:Int))=(x==UInt8.ofNat c):=by
 by_cases h:x=UInt8.ofNat c
 ·subst h
  simp [UInt8.toNat_ofNat,Nat.mod_eq_of_lt hc]
 ·have h2:¬(x.toNat:Int)=(c:Int):=by
   intro e
   apply h
   have:x.toNat=c:=by omega
   rw [←this];simp
  rw [beq_eq_false_iff_ne.2 h,beq_eq_false_iff_ne.2 h2]
theorem ZwG (s:Str) (hs:s.length≤1099511627000):∀k i f (out:List Str),i+k=s.length→f≤i→out.length≤i→
  ∃f' out',Zex.l0 (k+1) (s,47,((s.length:Int)+1),(f:Int),(i:Int),out)=some (s,((f':Nat):Int),out')∧f'≤s.length∧out'.length≤s.length∧
   out'++[s.drop f']=out++ZwM ((s.take i).drop f) (Zbz 47 (s.drop i)):=by
 intro k
 induction k with
 | zero=>
  intro i f out hi hf ho
  rw [Zex.l0.succ]
  simp only [Zex.l0.step]
  rw [ZaZ (by omega)]
  refine ⟨f,out,rfl,by omega,by omega,?_⟩
  have:i=s.length:=by omega
  subst this
  simp [Zbz,ZwM]
 | succ k ih=>
  intro i f out hi hf ho
  have hil:i<s.length:=by omega
  have hg:s.getD i 0=s[i]:=by simp [List.getD,hil]
  have hd:s.drop i=s[i]::s.drop (i+1):=List.drop_eq_getElem_cons hil
  rw [Zex.l0.succ]
  simp only [Zex.l0.step,Int.toNat_natCast]
  rw [Zab _ (Zaw hil),ZaY hil,cond_true,hg,show decide ((out.length:Int)<(s.length:Int)+1)=true from decide_eq_true (by omega)]
  simp only [Option.bind_some,cond_true]
  have hb:=ZvE s[i] 47 (by decide)
  rw [show ((47:Nat):Int)=47 from rfl] at hb
  rw [hb,hd]
  by_cases hc:s[i]=UInt8.ofNat 47
  ·rw [beq_iff_eq.2 hc,cond_true,Zab _ (ZiF (by omega)),Zab _ (ZiF hf),Zab _ (Zfr (by simp;omega)),Zdv (by omega)]
   obtain ⟨f',out',h1,h2,h3,h4⟩:=ih (i+1) (i+1) (out++[(s.take i).drop f]) (by omega) (by omega) (by simp;omega)
   refine ⟨f',out',h1,h2,h3,?_⟩
   rw [h4,hc]
   have e:(s.take (i+1)).drop (i+1)=[]:=List.drop_eq_nil_of_le (by simp;omega)
   rw [e,ZsB _ (ZeC _ _)]
   have:=Zvy 47 ((s.take i).drop f) (s.drop (i+1))
   rw [show (UInt8.ofNat 47)=47 from rfl,this]
   simp
  ·rw [beq_eq_false_iff_ne.2 hc,cond_false,Zdv (by omega)]
   obtain ⟨f',out',h1,h2,h3,h4⟩:=ih (i+1) f out (by omega) (by omega) (by omega)
   refine ⟨f',out',h1,h2,h3,?_⟩
   rw [h4,ZtR 47 s[i] _ _ hc]
   have e:(s.take (i+1)).drop f=(s.take i).drop f++[s[i]]:=by
    rw [List.take_succ_eq_append_getElem hil,List.drop_append_of_le_length (by simp;omega)]
   rw [e]
theorem ZwH (s:Str) (hs:s.length≤1099511627000):Zex s 47 ((s.length:Int)+1)=some (Zbz 47 s):=by
 obtain ⟨f',out',h1,h2,h3,h4⟩:=ZwG s hs s.length 0 0 [] (by omega) (by omega) (by simp)
 rw [show ((0:Nat):Int)=0 from rfl] at h1
 unfold Zex
 rw [ZaG,h1]
 simp only [Option.bind_some,Int.toNat_natCast]
 rw [Zab _ (ZiF h2),Zab _ (Zfr (by simp;omega)),h4]
 simp only [List.take_zero,List.drop_zero,List.nil_append,List.drop_nil]
 rw [ZsB _ (ZeC _ _)]
end Ev
end
section
namespace Ev
open Go
def okN (n:Int):Bool:=decide ((97≤n∧n≤122)∨(48≤n∧n≤57)∨n=46∨n=45∨n=95)
def okC (c:UInt8):Bool:=okN c.toNat
theorem Zhj {α:Type} (p:Prop) [Decidable p] (x y:α):(bif decide p then x else y)=if p then x else y:=by
 by_cases h:p<;>simp [h]
theorem ZwX {α:Type} (a b:Int) (x y:α):(bif a != b then x else y)=if a=b then y else x:=by
 by_cases h:a=b
 ·subst h;simp
 ·rw [show (a != b)=true from bne_iff_ne.2 h,if_neg h];rfl
theorem ZwY {α:Type} (a b:Int) (x y:α):(bif a==b then x else y)=if a=b then x else y:=by
 by_cases h:a=b
 ·subst h;simp
 ·rw [show (a==b)=false from beq_eq_false_iff_ne.2 h,if_neg h];rfl
def part (p:Str):Bool:=p.all okC&&(decide (1≤p.length)&&decide (p.length≤10)&&(!(p==[46])&&!(p==[46,46])))
theorem Zo3 (n:Int):Zbr n 1 10=some (decide (1≤n)&&decide (n≤10)):=by
 unfold Zbr
 simp only [Zhj,ge_iff_le]
 by_cases h:(1:Int)≤n<;>simp [h]
theorem ZxN (n:Int):ZgY n 1 10=some (decide (1≤n)&&decide (n≤10)):=Zo3 n
theorem Zur (s:Str) (hs:s.length≤1099511627000):∀k i,i+k=s.length→ZcZ.l0 (k+1) (s,(s.length:Int),(i:Int))=some (if (s.drop i).all okC then .inl s else .inr false):=by
 intro k
 induction k with
 | zero=>
  intro i hi
  rw [ZcZ.l0.succ]
  simp only [ZcZ.l0.step]
  rw [ZaZ (by omega),List.drop_eq_nil_of_le (by omega)]
  rfl
 | succ k ih=>
  intro i hi
  have hil:i<s.length:=by omega
  have hg:s.getD i 0=s[i]:=by simp [List.getD,hil]
  have hd:s.drop i=s[i]::s.drop (i+1):=List.drop_eq_getElem_cons hil
  rw [ZcZ.l0.succ]
  simp only [ZcZ.l0.step,Int.toNat_natCast]
  rw [Zab _ (Zaw hil),ZaY hil,cond_true,Zdv (by omega),ih (i+1) (by omega),hd,List.all_cons]
  have hc:okC s[i]=okN (s[i].toNat:Int):=rfl
  rw [hc]
  simp only [hg,Zhj,ZwX]
  generalize ((s[i].toNat:Nat):Int)=n
  have key:(if n<97 then if n<48 then if n=46 then some false else if n=45 then some false else some (n != 95) else if n>57 then if n=46 then some false else if n=45 then some false else some (n != 95) else some false
    else if n>122 then if n<48 then if n=46 then some false else if n=45 then some false else some (n != 95) else if n>57 then if n=46 then some false else if n=45 then some false else some (n != 95) else some false else some false)=some (!okN n):=by
   unfold okN
   repeat' split
   all_goals
    congr 1
    rw [Bool.eq_iff_iff]
    simp
    try omega
  rw [key]
  simp only [Option.bind_some]
  cases okN n<;>rfl
theorem Zus (s:Str) (hs:s.length≤1099511627000):ZcZ s=some (part s):=by
 unfold ZcZ
 have h:=Zur s hs s.length 0 (by omega)
 rw [show ((0:Nat):Int)=0 from rfl] at h
 rw [ZaG,h]
 simp only [List.drop_zero,Option.bind_some]
 unfold part
 cases h1:s.all okC with
 | false=>rfl
 | true=>
  simp only [if_true,Zo3,Option.bind_some,Bool.true_and]
  have e1:decide ((1:Int)≤(s.length:Int))=decide (1≤s.length):=by rw [Bool.eq_iff_iff];simp;omega
  have e2:decide ((s.length:Int)≤10)=decide (s.length≤10):=by rw [Bool.eq_iff_iff];simp;omega
  rw [e1,e2]
  cases decide (1≤s.length)<;>cases decide (s.length≤10)<;>cases (s==[46])<;>rfl
end Ev
end
section
namespace Ev
open Go
theorem Zoa (w:Str) (i1:Int) (list:List Str) (hs:w.length≤1099511627000):∀k i,i+k=w.length→Zas.l0 (k+1) (i1,w,(i:Int),list)=some (if (w.drop i).all okC then .inl (i1,w,list) else .inr (.inr false)):=by
 intro k
 induction k with
 | zero=>
  intro i hi
  rw [Zas.l0.succ]
  simp only [Zas.l0.step]
  rw [ZaZ (by omega),List.drop_eq_nil_of_le (by omega)]
  rfl
 | succ k ih=>
  intro i hi
  have hil:i<w.length:=by omega
  have hg:w.getD i 0=w[i]:=by simp [List.getD,hil]
  have hd:w.drop i=w[i]::w.drop (i+1):=List.drop_eq_getElem_cons hil
  have hn:∀{β:Type} (x:Option β),need (decide ((0:Int)≤(i:Int))&&decide ((i:Int)<(w.length:Int))) x=x:=fun x=>Zab _ (Zaw hil)
  rw [Zas.l0.succ]
  simp only [Zas.l0.step,Int.toNat_natCast]
  simp only [hn]
  rw [ZaY hil,cond_true,Zdv (by omega),ih (i+1) (by omega),hd,List.all_cons]
  have hc:okC w[i]=okN (w[i].toNat:Int):=rfl
  rw [hc]
  simp only [hg,Zhj,ZwY,ge_iff_le]
  generalize ((w[i].toNat:Nat):Int)=n
  have key:∀{β:Type} (g:Bool→Option β),((if 97≤n then if n≤122 then some (!true) else if 48≤n then if n≤57 then some (!true) else if n=46 then some (!true) else if n=45 then some (!true) else some (!(n==95)) else if n=46 then some (!true) else if n=45 then some (!true) else some (!(n==95)) else if 48≤n then if n≤57 then some (!true) else if n=46 then some (!true) else if n=45 then some (!true) else some (!(n==95)) else if n=46 then some (!true) else if n=45 then some (!true) else some (!(n==95))).bind g)=g (!okN n):=by
   intro β g
   rw [show (if 97≤n then if n≤122 then some (!true) else if 48≤n then if n≤57 then some (!true) else if n=46 then some (!true) else if n=45 then some (!true) else some (!(n==95)) else if n=46 then some (!true) else if n=45 then some (!true) else some (!(n==95)) else if 48≤n then if n≤57 then some (!true) else if n=46 then some (!true) else if n=45 then some (!true) else some (!(n==95)) else if n=46 then some (!true) else if n=45 then some (!true) else some (!(n==95)))=some (!okN n) by
    unfold okN
    repeat' split
    all_goals
     congr 1
     rw [Bool.eq_iff_iff]
     simp
     try omega]
   rfl
  rw [key]
  cases okN n<;>rfl
theorem ZwT (n:Nat):decide ((1:Int)≤(n:Int))=decide (1≤n):=by rw [Bool.eq_iff_iff];simp;omega
theorem Zvv (n:Nat):decide ((n:Int)≤10)=decide (n≤10):=by rw [Bool.eq_iff_iff];simp;omega
theorem ZsK (n:Nat):decide ((n:Int)≤4)=decide (n≤4):=by rw [Bool.eq_iff_iff];simp;omega
theorem Zn9 (l:List Str) (hl:l.length≤1099511627000) (hx:∀p,p∈l→p.length≤1099511627000):∀k i,i+k=l.length→Zas.l1 (k+1) ((i:Int),l)=some (if (l.drop i).all part then .inl l else .inr false):=by
 intro k
 induction k with
 | zero=>
  intro i hi
  rw [Zas.l1.succ]
  simp only [Zas.l1.step]
  rw [ZaZ (by omega),List.drop_eq_nil_of_le (by omega)]
  rfl
 | succ k ih=>
  intro i hi
  have hil:i<l.length:=by omega
  have hg:l.getD i []=l[i]:=by simp [List.getD,hil]
  have hd:l.drop i=l[i]::l.drop (i+1):=List.drop_eq_getElem_cons hil
  have hm:=hx l[i] (List.getElem_mem hil)
  rw [Zas.l1.succ]
  simp only [Zas.l1.step,Int.toNat_natCast]
  rw [Zab _ (Zaw hil),ZaY hil,cond_true,hg,ZaG]
  have h0:=Zoa l[i] (i:Int) l hm l[i].length 0 (by omega)
  rw [show ((0:Nat):Int)=0 from rfl] at h0
  rw [h0,List.drop_zero,hd,List.all_cons]
  unfold part
  cases h1:l[i].all okC with
  | false=>rfl
  | true=>
   simp only [if_true,Option.bind_some,ZxN,ZwT,Zvv,Bool.true_and]
   have hn:=ih (i+1) (by omega)
   rw [Zdv (by omega),hn]
   unfold part
   cases decide (1≤l[i].length)<;>cases decide (l[i].length≤10)<;>cases (l[i]==[46])<;>cases (l[i]==[46,46])<;>rfl
theorem Zid (b:UInt8):∀(s:Str) (p:Str),p∈Zbz b s→p.length≤s.length
 | [],p,h=>by simp [Zbz] at h;subst h;simp
 | c::s,p,h=>by
  have ih:=Zid b s
  simp only [Zbz] at h
  split at h
  ·cases h with
   | head=>simp
   | tail _ h=>have:=ih p h;simp;omega
  ·cases hc:Zbz b s with
   | nil=>rw [hc] at h;simp at h;subst h;simp
   | cons q r=>
    rw [hc] at h
    cases h with
    | head=>have:=ih q (by rw [hc];simp);simp;omega
    | tail _ h=>have:=ih p (by rw [hc];exact List.mem_cons_of_mem _ h);simp;omega
def Zdu (s:Str):Bool:=(Zbz 47 s).all part&&decide ((Zbz 47 s).length≤4)
theorem Zob (s:Str) (hs:s.length≤1048576):Zas s=some (Zdu s):=by
 unfold Zas
 rw [Zaf (by omega) (by omega),ZwH s (by omega)]
 simp only [Option.bind_some]
 have hl:=ZiO 47 s
 have h:=Zn9 (Zbz 47 s) (by omega) (fun p hp=>by have:=Zid 47 s p hp;omega) (Zbz 47 s).length 0 (by omega)
 rw [show ((0:Nat):Int)=0 from rfl] at h
 rw [ZaG,h,List.drop_zero]
 unfold Zdu
 cases h1:(Zbz 47 s).all part with
 | false=>rfl
 | true=>simp only [if_true,Option.bind_some,ZsK,Bool.true_and]
end Ev
end
section
namespace Ev
open Go
theorem ZjI {α:Type} {p q:α→Bool}:∀{l:List α},(∀x,x∈l→p x=q x)→l.find? p=l.find? q
 | [],_=>rfl
 | x::l,h=>by
  rw [List.find?_cons,List.find?_cons,h x (by simp),ZjI fun y hy=>h y (by simp [hy])]
theorem ZhS (p:UInt8→Bool):∀(s:Str) (k:Nat),((List.range' k s.length).find? fun i=>p (s.getD (i-k) 0))=(s.findIdx? p).map (· + k)
 | [],k=>by simp
 | c::s,k=>by
  have ih:=ZhS p s (k+1)
  rw [List.length_cons,List.range'_succ,List.find?_cons,Nat.sub_self,List.findIdx?_cons]
  cases h:p c with
  | true=>simp [h]
  | false=>
   simp only [List.getD_cons_zero,h]
   have e:((List.range' (k+1) s.length).find? fun i=>p ((c::s).getD (i-k) 0))=((List.range' (k+1) s.length).find? fun i=>p (s.getD (i-(k+1)) 0)):=by
    apply ZjI
    intro i hi
    rw [List.mem_range'] at hi
    obtain ⟨j,hj,rfl⟩:=hi
    rw [show k+1+1*j-k=j+1 by omega,show k+1+1*j-(k+1)=j by omega,List.getD_cons_succ]
   rw [e,ih]
   cases s.findIdx? p<;>simp;omega
theorem ZxO (s:Str):idxB s 47=match s.findIdx? (· == 47) with | some i=>(i:Int) | none=>-1:=by
 unfold idxB firstIdx
 have h:=ZhS (· == 47) s 0
 have e:((List.range (⟨s.toArray⟩:ByteArray).size).find? fun i=>(⟨s.toArray⟩:ByteArray)[i]! == (47:Int).toNat.toUInt8)=s.findIdx? (· == 47):=by
  rw [List.range_eq_range']
  have hsz:(⟨s.toArray⟩:ByteArray).size=s.length:=by simp [ByteArray.size]
  rw [hsz]
  rw [show (s.findIdx? (· == 47))=(s.findIdx? (· == 47)).map (· + 0) by simp,←h]
  apply ZjI
  intro i hi
  rw [List.mem_range'] at hi
  obtain ⟨j,hj,rfl⟩:=hi
  have hj':j<s.length:=hj
  rw [show 0+1*j=j by omega]
  have:(⟨s.toArray⟩:ByteArray)[j]! = s.getD j 0:=by
   have hj2:j<(⟨s.toArray⟩:ByteArray).size:=by rw [hsz];exact hj'
   rw [getElem!_pos (⟨s.toArray⟩:ByteArray) j hj2]
   show s.toArray[j]=s.getD j 0
   simp [List.getD,hj']
  rw [this];rfl
 rw [e]
 cases s.findIdx? (· == 47)<;>rfl
end Ev
end
section
namespace Ev
open Go
theorem ZjP:∀{s:Str},s.findIdx? (· == 47)=none→Zbz 47 s=[s]
 | [],_=>rfl
 | c::s,h=>by
  rw [List.findIdx?_cons] at h
  cases hc:(c==(47:UInt8)) with
  | true=>rw [hc] at h;simp at h
  | false=>
   rw [hc] at h
   have ih:=ZjP (s:=s) (by simpa using h)
   simp only [Zbz,if_neg (beq_eq_false_iff_ne.1 hc),ih]
theorem ZjO:∀{s:Str} {m:Nat},s.findIdx? (· == 47)=some m→m<s.length∧Zbz 47 s=s.take m::Zbz 47 (s.drop (m+1))
 | [],m,h=>by simp at h
 | c::s,m,h=>by
  rw [List.findIdx?_cons] at h
  cases hc:(c==(47:UInt8)) with
  | true=>
   rw [hc] at h
   simp at h;subst h
   have:=beq_iff_eq.1 hc
   subst this
   exact ⟨by simp,by simp [Zbz]⟩
  | false=>
   rw [hc] at h
   simp only [cond_false,Bool.false_eq_true,if_false,Option.map_eq_some_iff] at h
   obtain ⟨m',h',rfl⟩:=h
   obtain ⟨a,b⟩:=ZjO h'
   refine ⟨by simp;omega,?_⟩
   simp only [Zbz,if_neg (beq_eq_false_iff_ne.1 hc),b,List.take_succ_cons,List.drop_succ_cons]
theorem Zmc:∀(s:Str) (n:Int),s.foldl (fun (n:Int) x=>if x==47 then n+1 else n) n=n+((Zbz 47 s).length-1)
 | [],n=>by simp [Zbz]
 | c::s,n=>by
  rw [List.foldl_cons,Zmc s]
  have hne:=ZeC 47 s
  have hpos:1≤(Zbz 47 s).length:=by cases h:Zbz 47 s with
   | nil=>exact absurd h hne
   | cons _ _=>simp
  by_cases hc:c=47
  ·subst hc
   simp [Zbz];omega
  ·rw [beq_eq_false_iff_ne.2 hc]
   simp only [Zbz,if_neg hc]
   cases h:Zbz 47 s with
   | nil=>exact absurd h hne
   | cons q r=>simp
theorem ZxT (s:Str):cntB s 47=(Zbz 47 s).length-1:=by
 unfold cntB
 rw [Go.Lib.foldl_data]
 have:=Zmc s 0
 rw [Int.zero_add] at this
 exact this
theorem Zva (s:Str):ZfH s=some (match s.findIdx? (· == 47) with | some i=>(i:Int) | none=>-1):=by
 unfold ZfH Zey Zcy Zcg
 simp only [Option.bind_some,ZxO]
 by_cases h:([47]:Str)=s
 ·subst h;rfl
 ·rw [beq_eq_false_iff_ne.2 h];rfl
theorem Zqo:∀k i (s2:Str) (done:List Str),s2.length≤1048576→(Zbz 47 s2).length=k+1→done.length=i→i+k≤2000000→
  ∃s3,Zbd.l0 (k+1) (s2,((i+k:Nat):Int),(i:Int),done++List.replicate (k+1) ([]:Str))=some (s3,((i+k:Nat):Int),done++((Zbz 47 s2).dropLast++[[]]))∧(Zbz 47 s2).getLast? = some s3:=by
 intro k
 induction k with
 | zero=>
  intro i s2 done hs hc hd hi
  rw [Zbd.l0.succ]
  simp only [Zbd.l0.step]
  rw [ZaZ (by omega),cond_false]
  cases h:Zbz 47 s2 with
  | nil=>rw [h] at hc;simp at hc
  | cons q r=>
   rw [h] at hc
   have hr:r=[]:=List.eq_nil_of_length_eq_zero (by simpa using hc)
   subst hr
   have hq:q=s2:=by
    cases hf:s2.findIdx? (· == 47) with
    | none=>rw [ZjP hf] at h;simpa using h.symm
    | some m=>
     rw [(ZjO hf).2] at h
     have:=ZeC 47 (s2.drop (m+1))
     simp at h;exact absurd h.2 this
   subst hq
   exact ⟨q,by simp,by simp⟩
 | succ k ih=>
  intro i s2 done hs hc hd hi
  rw [Zbd.l0.succ]
  simp only [Zbd.l0.step,Zva,Option.bind_some]
  rw [ZaY (by omega),cond_true]
  cases hf:s2.findIdx? (· == 47) with
  | none=>rw [ZjP hf] at hc;simp at hc
  | some m=>
   obtain ⟨hm,hcut⟩:=ZjO hf
   rw [hcut] at hc ⊢
   have hc':(Zbz 47 (s2.drop (m+1))).length=k+1:=by simpa using hc
   simp only []
   rw [show decide ((m:Int)<0)=false from decide_eq_false (by omega),cond_false,Int.add_zero,Zaf (n:=(m:Int)) (by omega) (by omega),Zab _ (ZiF (by omega)),Int.toNat_natCast,
    Zdv (by omega),Zab _ (ZiF (by omega)),Zab _ (Zaw (by simp;omega)),Zdv (by omega),Int.toNat_natCast,Int.toNat_natCast]
   have e:(done++List.replicate (k+1+1) ([]:Str)).set i (s2.take m)=(done++[s2.take m])++List.replicate (k+1) ([]:Str):=by
    rw [List.set_append,if_neg (by omega),hd,Nat.sub_self,List.replicate_succ,List.set_cons_zero];simp
   rw [e]
   obtain ⟨s3,h1,h2⟩:=ih (i+1) (s2.drop (m+1)) (done++[s2.take m]) (by simp;omega) hc' (by simp [hd]) (by omega)
   refine ⟨s3,?_,?_⟩
   ·rw [show i+(k+1)=i+1+k by omega,h1]
    cases hq:Zbz 47 (s2.drop (m+1)) with
    | nil=>exact absurd hq (ZeC _ _)
    | cons a b=>simp
   ·cases hq:Zbz 47 (s2.drop (m+1)) with
    | nil=>exact absurd hq (ZeC _ _)
    | cons a b=>rw [hq] at h2;rw [List.getLast?_cons_cons];exact h2
theorem ZuK {a b:Int} (h:a≤b):ZoV a b=a:=by unfold ZoV;rw [if_neg (by omega)]
theorem Zqp (s:Str) (hs:s.length≤1048576):Zbd s=some (Zbz 47 s):=by
 have hlen:=ZiO 47 s
 have hpos:1≤(Zbz 47 s).length:=by cases h:Zbz 47 s with
  | nil=>exact absurd h (ZeC 47 s)
  | cons _ _=>simp
 obtain ⟨k,hk⟩:∃k,(Zbz 47 s).length=k+1:=⟨(Zbz 47 s).length-1,by omega⟩
 unfold Zbd Zgn ZdC
 simp only [Option.bind_some,ZxT,hk]
 rw [show (((k+1:Nat):Int)-1)=(k:Int) by omega,Zaf (n:=(k:Int)+1) (by omega) (by omega),Zaf (n:=(s.length:Int)+1) (by omega) (by omega),ZuK (by omega),
  Zaf (n:=(k:Int)+1-1) (by omega) (by omega),show ((k:Int)+1).toNat=k+1 by omega,show ((k:Int)+1-1)=(k:Int) by omega,ZaG]
 rw [Zab _ (by simp;exact ⟨by omega,Zfr (by omega)⟩)]
 obtain ⟨s3,h1,h2⟩:=Zqo k 0 s [] hs hk rfl (by omega)
 simp only [Nat.zero_add,List.nil_append] at h1
 rw [show ((0:Nat):Int)=0 from rfl] at h1
 rw [h1]
 simp only [Option.bind_some,Int.toNat_natCast]
 have hdl:(Zbz 47 s).dropLast.length=k:=by simp [hk]
 have hset:((Zbz 47 s).dropLast++[([]:Str)]).set k s3=Zbz 47 s:=by
  rw [List.set_append,if_neg (by omega),hdl,Nat.sub_self,List.set_cons_zero]
  obtain ⟨ys,hy⟩:=List.getLast?_eq_some_iff.1 h2
  rw [hy];simp
 have hn:w64 ((k:Int)+1)=((k+1:Nat):Int):=Zdv (by omega)
 rw [Zab _ (Zaw (by simp;omega))]
 simp only [hset,hn,Int.toNat_natCast]
 rw [Zab _ (ZiF (by omega)),List.drop_zero,List.take_of_length_le (by omega)]
theorem Zui (s:Str) (hs:s.length≤1048576):Zfy s=some (Zbz 47 s):=by
 unfold Zfy
 rw [Zqp s hs];rfl
theorem Zow (l:List Str) (hl:l.length≤1099511627000) (hx:∀p,p∈l→p.length≤1099511627000):∀k i,i+k=l.length→Za1.l0 (k+1) (l,l,(l.length:Int),(i:Int))=some (if (l.drop i).all part then .inl l else .inr false):=by
 intro k
 induction k with
 | zero=>
  intro i hi
  rw [Za1.l0.succ]
  simp only [Za1.l0.step]
  rw [ZaZ (by omega),List.drop_eq_nil_of_le (by omega)]
  rfl
 | succ k ih=>
  intro i hi
  have hil:i<l.length:=by omega
  have hg:l.getD i []=l[i]:=by simp [List.getD,hil]
  have hd:l.drop i=l[i]::l.drop (i+1):=List.drop_eq_getElem_cons hil
  have hm:=hx l[i] (List.getElem_mem hil)
  rw [Za1.l0.succ]
  simp only [Za1.l0.step,Int.toNat_natCast]
  rw [Zab _ (Zaw hil),ZaY hil,cond_true,hg,Zus _ hm,hd,List.all_cons,Zdv (by omega)]
  simp only [Option.bind_some]
  cases part l[i] with
  | false=>rfl
  | true=>simp only [Bool.not_true,cond_false,Bool.true_and];exact ih (i+1) (by omega)
theorem Zox (s:Str) (hs:s.length≤1048576):Za1 s=some (Zdu s):=by
 unfold Za1
 rw [Zui s hs]
 simp only [Option.bind_some]
 have hl:=ZiO 47 s
 have h:=Zow (Zbz 47 s) (by omega) (fun p hp=>by have:=Zid 47 s p hp;omega) (Zbz 47 s).length 0 (by omega)
 rw [show ((0:Nat):Int)=0 from rfl] at h
 rw [ZaG,h,List.drop_zero]
 unfold Zdu
 cases h1:(Zbz 47 s).all part with
 | false=>rfl
 | true=>simp only [if_true,Option.bind_some,ZsK,Bool.true_and]
end Ev
end
section
namespace Ev
open Go
theorem ZxL {n m k:Nat} (hn:n<256^k) (hm:m<256^k) (h:leB n k=leB m k):n=m:=by
 have:=congrArg leV h
 rwa [Zrk,Zrk,Nat.mod_eq_of_lt hn,Nat.mod_eq_of_lt hm] at this
theorem ZfZ (s:Str) (a k:Nat) (h:a+k≤s.length):(s.drop a).take k=leB (leN s a k) k:=by
 have hl:((s.drop a).take k).length=k:=by rw [List.length_take,List.length_drop];omega
 have:=Zrm ((s.drop a).take k)
 rw [hl] at this
 exact this.symm
theorem Zez (s:Str) (a k:Nat):s.take (a+k)=s.take a++(s.drop a).take k:=by
 rw [List.take_add]
def Zqi (how stamp crc packed long name:Nat):Str:=
 leB 67324752 4++leB 20 2++leB 0 2++leB how 2++leB stamp 4++leB crc 4++leB packed 4++leB long 4++leB name 2++leB 0 2
theorem take30 (s:Str) (h:30≤s.length):s.take 30=leB (leN s 0 4) 4++leB (leN s 4 2) 2++leB (leN s 6 2) 2++leB (leN s 8 2) 2++leB (leN s 10 4) 4++leB (leN s 14 4) 4++leB (leN s 18 4) 4++leB (leN s 22 4) 4++leB (leN s 26 2) 2++leB (leN s 28 2) 2:=by
 rw [←ZfZ s 0 4 (by omega),←ZfZ s 4 2 (by omega),←ZfZ s 6 2 (by omega),←ZfZ s 8 2 (by omega),←ZfZ s 10 4 (by omega),←ZfZ s 14 4 (by omega),←ZfZ s 18 4 (by omega),←ZfZ s 22 4 (by omega),←ZfZ s 26 2 (by omega),←ZfZ s 28 2 (by omega)]
 rw [show s.take 30=s.take (28+2) from rfl,Zez s 28 2,show s.take 28=s.take (26+2) from rfl,Zez s 26 2,show s.take 26=s.take (22+4) from rfl,Zez s 22 4,show s.take 22=s.take (18+4) from rfl,Zez s 18 4,
  show s.take 18=s.take (14+4) from rfl,Zez s 14 4,show s.take 14=s.take (10+4) from rfl,Zez s 10 4,show s.take 10=s.take (8+2) from rfl,Zez s 8 2,show s.take 8=s.take (6+2) from rfl,Zez s 6 2,
  show s.take 6=s.take (4+2) from rfl,Zez s 4 2,show s.take 4=s.take (0+4) from rfl,Zez s 0 4,List.take_zero,List.nil_append]
theorem ZgM {a b c d:Str} (hl:a.length=c.length):a++b=c++d↔a=c∧b=d:=by
 constructor
 ·intro h;exact List.append_inj h hl
 ·rintro ⟨rfl,rfl⟩;rfl
theorem Zoz (s:Str) (h:30≤s.length) (how stamp crc packed long name:Nat) (h1:how<65536) (h2:stamp<4294967296) (h3:crc<4294967296) (h4:packed<4294967296) (h5:long<4294967296) (h6:name<65536) :
  Zqi how stamp crc packed long name=s.take 30↔leN s 0 4=67324752∧leN s 4 2=20∧leN s 6 2=0∧leN s 8 2=how∧leN s 10 4=stamp∧leN s 14 4=crc∧leN s 18 4=packed∧leN s 22 4=long∧leN s 26 2=name∧leN s 28 2=0:=by
 have two:∀a,leN s a 2<256^2:=fun a=>Zge s a 2
 have four:∀a,leN s a 4<256^4:=fun a=>Zge s a 4
 have inj:∀{n m k:Nat},n<256^k→m<256^k→(leB n k=leB m k↔m=n):=fun hn hm=>⟨fun h=>(ZxL hn hm h).symm,fun h=>by rw [h]⟩
 rw [take30 s h]
 unfold Zqi
 rw [ZgM (by simp only [List.length_append,ZaK]),ZgM (by simp only [List.length_append,ZaK]),ZgM (by simp only [List.length_append,ZaK]),ZgM (by simp only [List.length_append,ZaK]),ZgM (by simp only [List.length_append,ZaK]),
  ZgM (by simp only [List.length_append,ZaK]),ZgM (by simp only [List.length_append,ZaK]),ZgM (by simp only [List.length_append,ZaK]),ZgM (by simp only [List.length_append,ZaK])]
 rw [inj (by omega) (four 0),inj (by omega) (two 4),inj (by omega) (two 6),inj (by omega) (two 8),inj (by omega) (four 10),inj (by omega) (four 14),inj (by omega) (four 18),inj (by omega) (four 22),inj (by omega) (two 26),inj (by omega) (two 28)]
 simp only [and_assoc]
theorem ZjN (name:Str) (hn:name.length≤1048576) (y mo d h mi sec:Int) (text:Str):ZbZ name y mo d h mi sec text=some (Zdu name&&(stM y mo d h mi sec&&decide (text.length≤300))):=by
 unfold ZbZ
 rw [Zox name hn]
 simp only [Zaa]
 rw [Zje]
 simp only [Zaa]
 have e:decide ((text.length:Int)≤300)=decide (text.length≤300):=by
  by_cases h:text.length≤300
  ·rw [decide_eq_true h,decide_eq_true (by omega)]
  ·rw [decide_eq_false h,decide_eq_false (by omega)]
 rw [e]
 cases Zdu name<;>cases stM y mo d h mi sec<;>rfl
theorem ZfT (name:Str) (hn:name.length≤1048576) (y mo d h mi sec:Int) (text:Str):ZaJ name y mo d h mi sec text=some (Zdu name&&(stM y mo d h mi sec&&decide (text.length≤300))):=by
 unfold ZaJ
 rw [Zob name hn]
 simp only [Zaa]
 rw [Zmw]
 simp only [Zaa]
 have e:decide ((text.length:Int)≤300)=decide (text.length≤300):=by
  by_cases h:text.length≤300
  ·rw [decide_eq_true h,decide_eq_true (by omega)]
  ·rw [decide_eq_false h,decide_eq_false (by omega)]
 rw [e]
 cases Zdu name<;>cases stM y mo d h mi sec<;>rfl
theorem ZlM (name:Str) (hn:name.length≤1048576) {y mo d h mi sec:Nat} (hk:stM y mo d h mi sec=true) (text:Str) (ht:text.length≤1048576) (how packed:Nat) (hh:how≤65535) (hp:packed≤4294967295) :
  ZdQ name y mo d h mi sec text how packed=some (Zqi how (stN y mo d h mi sec) (ZoX text) packed text.length name.length):=by
 have hst:=(Zn5 hk).2
 have hcr:=Zie text
 have n20:=Zcq 20 2 (by omega) (by omega)
 have n0:=Zcq 0 2 (by omega) (by omega)
 have n1:=Zcq how 2 (by omega) (by omega)
 have n2:=Zcq (stN y mo d h mi sec) 4 (by omega) (by omega)
 have n3:=Zcq (ZoX text) 4 (by omega) (by omega)
 have n4:=Zcq packed 4 (by omega) (by omega)
 have n5:=Zcq text.length 4 (by omega) (by omega)
 have n6:=Zcq name.length 2 (by omega) (by omega)
 rw [show ((20:Nat):Int)=20 from rfl,show ((2:Nat):Int)=2 from rfl] at n20
 rw [show ((0:Nat):Int)=0 from rfl,show ((2:Nat):Int)=2 from rfl] at n0
 rw [show ((2:Nat):Int)=2 from rfl] at n1 n6
 rw [show ((4:Nat):Int)=4 from rfl] at n2 n3 n4 n5
 have L:∀n k,(leB n k).length=k:=ZaK
 have mark:([80,75,3,4]:Str)=leB 67324752 4:=by decide
 unfold ZdQ
 rw [n20,n0,mark]
 simp only [Zaa]
 rw [Zad (by simp only [List.length_append,L];omega),Zad (by simp only [List.length_append,L];omega),n1]
 simp only [Zaa]
 rw [Zad (by simp only [List.length_append,L];omega),Zk2 hk]
 simp only [Zaa]
 rw [n2]
 simp only [Zaa]
 rw [Zad (by simp only [List.length_append,L];omega),crc_eq text (by omega)]
 simp only [Zaa]
 rw [n3]
 simp only [Zaa]
 rw [Zad (by simp only [List.length_append,L];omega),n4]
 simp only [Zaa]
 rw [Zad (by simp only [List.length_append,L];omega),n5]
 simp only [Zaa]
 rw [Zad (by simp only [List.length_append,L];omega),n6]
 simp only [Zaa]
 rw [Zad (by simp only [List.length_append,L];omega),Zad (by simp only [List.length_append,L];omega)]
 rfl
end Ev
end
section
namespace Ev
open Go
abbrev Fil:=Str×Int×Int×Int×Int×Int×Int×Str
def ZgR (s:Str):Str×Int×Bool:=if 700<s.length then ([],0,false) else ZwN (Ztu s)
theorem Zxa:∀(f:Nat) (l:List Bool) (out:List Int) {l':List Bool} {o:List Int},mGo f l out=some (l',o)→o.length≤300
 | 0,l,out,l',o,h=>by cases h
 | f+1,l,out,l',o,h=>by
  rw [mGo] at h
  cases hp:ZmD l out with
  | none=>rw [hp] at h;cases h
  | some p=>
   obtain ⟨b,l1,o1⟩:=p
   rw [hp] at h
   simp only [Option.bind_some] at h
   by_cases h3:300<o1.length
   ·rw [if_pos h3] at h;cases h
   ·rw [if_neg h3] at h
    cases b with
    | true=>
     obtain ⟨_,rfl⟩:=Prod.mk.inj (Option.some.inj h)
     omega
    | false=>exact Zxa f l1 o1 h
theorem Zqs (s:Str):(ZgR s).1.length≤300:=by
 unfold ZgR
 split
 ·simp
 ·unfold Ztu
  cases hg:mGo (8*s.length+1) (Zda s) [] with
  | none=>simp [ZwN]
  | some p=>
   obtain ⟨l,o⟩:=p
   have:=Zxa _ _ _ hg
   simp only [Option.bind_some]
   cases ZdL (some l) with
   | none=>simp [ZwN]
   | some l'=>simp [ZwN,Zbf];exact this
def ZvT (how:Nat) (body:Str):Option Str:=
 if how=0 then some body else if how=8 then (if (ZgR body).2.2=true∧(ZgR body).2.1=(body.length:Int) then some (ZgR body).1 else none) else none
def Zri (s t:Str):Prop:=Zdu ((s.drop 30).take (leN s 26 2))=true∧stM (stG (leN s 10 4)).y (stG (leN s 10 4)).mo (stG (leN s 10 4)).d (stG (leN s 10 4)).h (stG (leN s 10 4)).mi (stG (leN s 10 4)).sec=true∧t.length≤300∧
    leN s 0 4=67324752∧leN s 4 2=20∧leN s 6 2=0∧leN s 28 2=0∧leN s 14 4=ZoX t∧leN s 22 4=t.length
instance (s t:Str):Decidable (Zri s t):=by unfold Zri;infer_instance
def Zf2 (s:Str):Option (Fil×Nat):=
 if s.length<30 then none else if s.length<30+leN s 26 2+leN s 18 4 then none else
  match ZvT (leN s 8 2) ((s.drop (30+leN s 26 2)).take (leN s 18 4)) with
  | none=>none
  | some t=>if Zri s t then
    some (((s.drop 30).take (leN s 26 2),((stG (leN s 10 4)).y:Int),((stG (leN s 10 4)).mo:Int),((stG (leN s 10 4)).d:Int),((stG (leN s 10 4)).h:Int),((stG (leN s 10 4)).mi:Int),((stG (leN s 10 4)).sec:Int),t),30+leN s 26 2+leN s 18 4)
   else none
def ZvY:Option (Fil×Nat)→Str×Int×Int×Int×Int×Int×Int×Str×Int×Bool
 | none=>([],0,0,0,0,0,0,[],0,false)
 | some (e,n)=>(e.1,e.2.1,e.2.2.1,e.2.2.2.1,e.2.2.2.2.1,e.2.2.2.2.2.1,e.2.2.2.2.2.2.1,e.2.2.2.2.2.2.2,(n:Int),true)
theorem ZtJ (s:Str):Zbk s=some (ZgR s):=Zry s
theorem Zmz (s:Str):Zbp s=some (ZgR s):=Zk5 s
theorem Zq7 {P:Prop} [Decidable P] (h:¬P):some true=some (!decide P):=by rw [decide_eq_false h];rfl
theorem Zxw {P:Prop} [Decidable P] (h:P):some false=some (!decide P):=by rw [decide_eq_true h];rfl
theorem ZwZ (s:Str) (h30:30≤s.length) (hs:s.length≤1048576) (hbig:30+leN s 26 2+leN s 18 4≤s.length) (y mo d h mi sec:Int) (t:Str) (ht:t.length≤1048576)
  (hg:(y,mo,d,h,mi,sec)=if stM (stG (leN s 10 4)).y (stG (leN s 10 4)).mo (stG (leN s 10 4)).d (stG (leN s 10 4)).h (stG (leN s 10 4)).mi (stG (leN s 10 4)).sec then
   (((stG (leN s 10 4)).y:Int),((stG (leN s 10 4)).mo:Int),((stG (leN s 10 4)).d:Int),((stG (leN s 10 4)).h:Int),((stG (leN s 10 4)).mi:Int),((stG (leN s 10 4)).sec:Int)) else (0,0,0,0,0,0)) :
  ((ZbZ ((s.drop 30).take (leN s 26 2)) y mo d h mi sec t).bind fun EntryOk=>(bif (!EntryOk) then (some true) else
   ((ZdQ ((s.drop 30).take (leN s 26 2)) y mo d h mi sec t (leN s 8 2:Int) (leN s 18 4:Int)).bind fun headOf_=>(need (decide (0≤(30:Int))&&decide ((30:Int)≤s.length)) (some (!(headOf_==(s.take 30)))))))) =
  some (!decide (Zri s t)):=by
 have two:∀a,leN s a 2<256^2:=fun a=>Zge s a 2
 have four:∀a,leN s a 4<256^4:=fun a=>Zge s a 4
 have t26:=two 26
 have t8:=two 8
 have f18:=four 18
 have f10:=four 10
 have hnl:((s.drop 30).take (leN s 26 2)).length=leN s 26 2:=by rw [List.length_take,List.length_drop];omega
 rw [ZjN _ (by omega)]
 simp only [Zaa]
 cases hst:stM (stG (leN s 10 4)).y (stG (leN s 10 4)).mo (stG (leN s 10 4)).d (stG (leN s 10 4)).h (stG (leN s 10 4)).mi (stG (leN s 10 4)).sec with
 | false=>
  rw [hst] at hg
  obtain ⟨rfl,hg'⟩:=Prod.mk.inj hg
  have:stM 0 mo d h mi sec=false:=by unfold stM;rw [decide_eq_false (by omega)];rfl
  rw [this,Bool.false_and,Bool.and_false,Bool.not_false,cond_true]
  exact Zq7 (P:=Zri s t) (fun q=>absurd q.2.1 (by rw [hst];simp))
 | true=>
  rw [hst] at hg
  simp only [if_true] at hg
  obtain ⟨g1,hg1⟩:=Prod.mk.inj hg
  obtain ⟨g2,hg2⟩:=Prod.mk.inj hg1
  obtain ⟨g3,hg3⟩:=Prod.mk.inj hg2
  obtain ⟨g4,hg4⟩:=Prod.mk.inj hg3
  obtain ⟨g5,g6⟩:=Prod.mk.inj hg4
  clear hg hg1 hg2 hg3 hg4
  subst g1 g2 g3 g4 g5 g6
  rw [hst,Bool.true_and]
  by_cases hA:Zdu ((s.drop 30).take (leN s 26 2))=true∧t.length≤300
  ·rw [hA.1,decide_eq_true hA.2]
   simp only [Bool.and_self,Bool.not_true,cond_false]
   rw [ZlM _ (by omega) hst t ht _ _ (by omega) (by omega),Zuf _ (by omega)]
   simp only [Zaa]
   rw [Zab _ (by simp;omega)]
   have hi:=Zoz s h30 (leN s 8 2) (leN s 10 4) (ZoX t) (leN s 18 4) t.length (leN s 26 2) (by omega) (by omega) (Zie t) (by omega) (by omega) (by omega)
   rw [hnl]
   by_cases he:Zqi (leN s 8 2) (leN s 10 4) (ZoX t) (leN s 18 4) t.length (leN s 26 2)=s.take 30
   ·obtain ⟨q1,q2,q3,q4,q5,q6,q7,q8,q9,q10⟩:=hi.1 he
    rw [he,show (s.take 30==s.take 30)=true from beq_self_eq_true _]
    exact Zxw (P:=Zri s t) ⟨hA.1,hst,hA.2,q1,q2,q3,q10,q6,q8⟩
   ·rw [beq_false_of_ne he]
    refine Zq7 (P:=Zri s t) ?_
    rintro ⟨_,_,_,q1,q2,q3,q10,q6,q8⟩
    exact he (hi.2 ⟨q1,q2,q3,rfl,rfl,q6,rfl,q8,rfl,q10⟩)
  ·have:(Zdu ((s.drop 30).take (leN s 26 2))&&decide (t.length≤300))=false:=by
    cases hn:Zdu ((s.drop 30).take (leN s 26 2)) with
    | false=>rfl
    | true=>rw [decide_eq_false (fun q=>hA ⟨hn,q⟩)];rfl
   rw [this,Bool.not_false,cond_true]
   exact Zq7 (P:=Zri s t) (fun q=>hA ⟨q.1,q.2.2.1⟩)
end Ev
end
section
namespace Ev
open Go
set_option maxRecDepth 100000 in
theorem Zh4 (s:Str) (hs:s.length≤1048576):ZbM s=some (ZvY (Zf2 s)):=by
 unfold ZbM Zf2
 by_cases h30:s.length<30
 ·rw [if_pos h30,decide_eq_true (by omega),cond_true];rfl
 rw [if_neg h30,decide_eq_false (by omega),cond_false]
 have two:∀a,leN s a 2<256^2:=fun a=>Zge s a 2
 have four:∀a,leN s a 4<256^4:=fun a=>Zge s a 4
 have t26:=two 26
 have t8:=two 8
 have f18:=four 18
 have f10:=four 10
 have n8:=Zfk s 8 2 (by omega) (by omega) (by omega) (by omega)
 have n18:=Zfk s 18 4 (by omega) (by omega) (by omega) (by omega)
 have n26:=Zfk s 26 2 (by omega) (by omega) (by omega) (by omega)
 have n10:=Zfk s 10 4 (by omega) (by omega) (by omega) (by omega)
 rw [show ((8:Nat):Int)=8 from rfl,show ((2:Nat):Int)=2 from rfl] at n8
 rw [show ((18:Nat):Int)=18 from rfl,show ((4:Nat):Int)=4 from rfl] at n18
 rw [show ((26:Nat):Int)=26 from rfl,show ((2:Nat):Int)=2 from rfl] at n26
 rw [show ((10:Nat):Int)=10 from rfl,show ((4:Nat):Int)=4 from rfl] at n10
 have hl:(s.drop 30).length=s.length-30:=List.length_drop
 rw [n8]
 simp only [Zaa]
 rw [n18]
 simp only [Zaa]
 rw [n26]
 simp only [Zaa]
 rw [Zab _ (by simp;omega),hl]
 by_cases hbig:s.length<30+leN s 26 2+leN s 18 4
 ·rw [if_pos hbig]
  have hc:(bif decide (((s.length-30:Nat):Int)<((leN s 26 2:Nat):Int)) then some true else some (decide (w64 (((s.length-30:Nat):Int)-((leN s 26 2:Nat):Int))<((leN s 18 4:Nat):Int))))=some true:=by
   by_cases c:s.length-30<leN s 26 2
   ·rw [decide_eq_true (by omega)];rfl
   ·rw [decide_eq_false (by omega),cond_false,Zaf (by omega) (by omega),decide_eq_true (by omega)]
  rw [hc]
  rfl
 rw [if_neg hbig,decide_eq_false (by omega),cond_false,Zaf (n:=((s.length-30:Nat):Int)-((leN s 26 2:Nat):Int)) (by omega) (by omega),decide_eq_false (by omega)]
 simp only [Zaa,cond_false]
 rw [Zaf (n:=((leN s 26 2:Nat):Int)+((leN s 18 4:Nat):Int)) (by omega) (by omega),show ((leN s 26 2:Nat):Int)+((leN s 18 4:Nat):Int)=((leN s 26 2+leN s 18 4:Nat):Int) by omega]
 rw [Zab _ (by simp;omega),Zab _ (by simp;omega),Zab _ (by simp;omega),n10]
 simp only [Zaa]
 rw [Zq5 _ (by omega)]
 have hbody:(((s.drop 30).take (leN s 26 2+leN s 18 4)).drop (leN s 26 2))=(s.drop (30+leN s 26 2)).take (leN s 18 4):=by
  rw [List.drop_take,List.drop_drop];congr 1;omega
 rw [Int.toNat_natCast,Int.toNat_natCast,hbody]
 have hbl:((s.drop (30+leN s 26 2)).take (leN s 18 4)).length=leN s 18 4:=by rw [List.length_take,List.length_drop];omega
 obtain ⟨g,hg⟩:∃g:Int×Int×Int×Int×Int×Int,g=if stM (stG (leN s 10 4)).y (stG (leN s 10 4)).mo (stG (leN s 10 4)).d (stG (leN s 10 4)).h (stG (leN s 10 4)).mi (stG (leN s 10 4)).sec then
   (((stG (leN s 10 4)).y:Int),((stG (leN s 10 4)).mo:Int),((stG (leN s 10 4)).d:Int),((stG (leN s 10 4)).h:Int),((stG (leN s 10 4)).mi:Int),((stG (leN s 10 4)).sec:Int)) else (0,0,0,0,0,0):=⟨_,rfl⟩
 obtain ⟨y,mo,d,h,mi,sec⟩:=g
 obtain ⟨b,hb⟩:∃b:Bool,(if stM (stG (leN s 10 4)).y (stG (leN s 10 4)).mo (stG (leN s 10 4)).d (stG (leN s 10 4)).h (stG (leN s 10 4)).mi (stG (leN s 10 4)).sec then
  (((stG (leN s 10 4)).y:Int),((stG (leN s 10 4)).mo:Int),((stG (leN s 10 4)).d:Int),((stG (leN s 10 4)).h:Int),((stG (leN s 10 4)).mi:Int),((stG (leN s 10 4)).sec:Int),true) else (0,0,0,0,0,0,false))=(y,mo,d,h,mi,sec,b):=by
  cases hst:stM (stG (leN s 10 4)).y (stG (leN s 10 4)).mo (stG (leN s 10 4)).d (stG (leN s 10 4)).h (stG (leN s 10 4)).mi (stG (leN s 10 4)).sec with
  | true=>
   rw [hst] at hg
   simp only [if_true] at hg ⊢
   exact ⟨true,by simp only [Prod.mk.injEq] at hg ⊢;simp [hg]⟩
  | false=>
   rw [hst] at hg
   simp only [Bool.false_eq_true,if_false] at hg ⊢
   exact ⟨false,by simp only [Prod.mk.injEq] at hg ⊢;simp [hg]⟩
 rw [hb]
 simp only [Zaa]
 have fin:∀t:Str,t.length≤1048576→
   (((ZbZ ((s.drop 30).take (leN s 26 2)) y mo d h mi sec t).bind fun EntryOk=>(bif (!EntryOk) then (some true) else
    ((ZdQ ((s.drop 30).take (leN s 26 2)) y mo d h mi sec t (leN s 8 2:Int) (leN s 18 4:Int)).bind fun headOf_=>(need (decide (0≤(30:Int))&&decide ((30:Int)≤s.length)) (some (!(headOf_==(s.take 30)))))))).bind fun c2=>
    (bif c2 then (some (([],0,0,0,0,0,0,[],0,false):Str×Int×Int×Int×Int×Int×Int×Str×Int×Bool)) else
     (some ((s.drop 30).take (leN s 26 2),y,mo,d,h,mi,sec,t,(w64 ((w64 (30+((leN s 26 2:Nat):Int)))+((leN s 18 4:Nat):Int))),true)))) =
   some (ZvY (if Zri s t then
    some (((s.drop 30).take (leN s 26 2),((stG (leN s 10 4)).y:Int),((stG (leN s 10 4)).mo:Int),((stG (leN s 10 4)).d:Int),((stG (leN s 10 4)).h:Int),((stG (leN s 10 4)).mi:Int),((stG (leN s 10 4)).sec:Int),t),30+leN s 26 2+leN s 18 4)
   else none)):=by
  intro t ht
  rw [ZwZ s (by omega) hs (by omega) y mo d h mi sec t ht hg]
  simp only [Zaa]
  by_cases hp:Zri s t
  ·have hst:=hp.2.1
   rw [hst] at hg
   simp only [if_true,Prod.mk.injEq] at hg
   obtain ⟨g1,g2,g3,g4,g5,g6⟩:=hg
   subst g1 g2 g3 g4 g5 g6
   rw [if_pos hp,decide_eq_true hp,Bool.not_true,cond_false,Zaf (n:=30+((leN s 26 2:Nat):Int)) (by omega) (by omega),Zaf (by omega) (by omega)]
   unfold ZvY
   dsimp only
   congr 9
  ·rw [if_neg hp,decide_eq_false hp];rfl
 by_cases c0:leN s 8 2=0
 ·rw [c0] at fin ⊢
  rw [show (((0:Nat):Int)==0)=true from rfl,cond_true]
  simp only [Zaa]
  exact fin _ (by rw [hbl];omega)
 rw [show (((leN s 8 2:Nat):Int)==0)=false by simp only [beq_eq_false_iff_ne,ne_eq];omega,cond_false]
 by_cases c8:leN s 8 2=8
 ·rw [c8] at fin ⊢
  rw [show (((8:Nat):Int)==8)=true by simp,cond_true,ZtJ]
  simp only [Zaa]
  have hle:=Zqs ((s.drop (30+leN s 26 2)).take (leN s 18 4))
  unfold ZvT
  rw [if_neg (by omega),if_pos rfl,hbl]
  generalize ZgR ((s.drop (30+leN s 26 2)).take (leN s 18 4))=R at hle
  obtain ⟨t,n,ok⟩:=R
  dsimp only at hle ⊢
  cases ok with
  | false=>rw [if_neg (by simp)];rfl
  | true=>
   simp only [Bool.not_true,cond_false,Zaa,true_and]
   by_cases hn:n=((leN s 18 4:Nat):Int)
   ·rw [if_pos hn,show (n != ((leN s 18 4:Nat):Int))=false by simp [hn],cond_false]
    simp only [Zaa]
    exact fin t (by omega)
   ·rw [if_neg hn,show (n != ((leN s 18 4:Nat):Int))=true by simp [hn],cond_true];rfl
 ·rw [show (((leN s 8 2:Nat):Int)==8)=false by simp only [beq_eq_false_iff_ne,ne_eq];omega,cond_false]
  unfold ZvT
  rw [if_neg c0,if_neg c8];rfl
end Ev
end
section
namespace Ev
open Go
def ZmJ (s:Str) (r:Str×Int×Int×Int×Int×Int×Int×Str×Int×Bool):Prop:=match Zf2 s with
 | some p=>r=ZvY (some p)
 | none=>r.2.2.2.2.2.2.2.2.2=false
theorem eqI (a b:Nat):((a:Int)==(b:Int))=decide (a=b):=by
 by_cases h:a=b
 ·subst h;simp
 ·rw [decide_eq_false h];simp;omega
set_option maxRecDepth 100000 in
theorem ZlA (s:Str) (hs:s.length≤1048576):Ret (ZdI s) (ZmJ s):=by
 unfold ZdI
 have two:∀a,leN s a 2<256^2:=fun a=>Zge s a 2
 have four:∀a,leN s a 4<256^4:=fun a=>Zge s a 4
 have t26:=two 26
 have t8:=two 8
 have f18:=four 18
 have f10:=four 10
 have q:=fun a K (h1:K≤4) (h2:1≤K) (h3:a≤2000000000)=>Zoo s a K h1 h2 (by omega) h3
 have n26:Zb7 s 26 2=_:=q 26 2 (by omega) (by omega) (by omega)
 have n18:Zb7 s 18 4=_:=q 18 4 (by omega) (by omega) (by omega)
 have n0:Zb7 s 0 4=_:=q 0 4 (by omega) (by omega) (by omega)
 have n4:Zb7 s 4 2=_:=q 4 2 (by omega) (by omega) (by omega)
 have n6:Zb7 s 6 2=_:=q 6 2 (by omega) (by omega) (by omega)
 have n28:Zb7 s 28 2=_:=q 28 2 (by omega) (by omega) (by omega)
 have n10:Zb7 s 10 4=_:=q 10 4 (by omega) (by omega) (by omega)
 have n8:Zb7 s 8 2=_:=q 8 2 (by omega) (by omega) (by omega)
 have n14:Zb7 s 14 4=_:=q 14 4 (by omega) (by omega) (by omega)
 have n22:Zb7 s 22 4=_:=q 22 4 (by omega) (by omega) (by omega)
 rw [n26,n18,n0,n4,n6,n28,n10,n8,n14,n22]
 simp only [Zaa]
 by_cases h30:s.length<30
 ·have hno:Zf2 s=none:=by unfold Zf2;rw [if_pos h30]
  rw [if_neg (show ¬28+2≤s.length by omega),show (((-1:Int))==0)=false from rfl]
  have hh:∀(a b c:Bool),(bif a then bif b then bif c then some false else some false else some false else some false)=some false:=fun a b c=>by cases a<;>cases b<;>cases c<;>rfl
  rw [hh]
  simp only [Zaa,Bool.not_false,cond_true]
  refine .pure ?_
  unfold ZmJ
  rw [hno]
 rw [if_pos (show 26+2≤s.length by omega),if_pos (show 18+4≤s.length by omega),if_pos (show 0+4≤s.length by omega),if_pos (show 4+2≤s.length by omega),if_pos (show 6+2≤s.length by omega),if_pos (show 28+2≤s.length by omega),
  if_pos (show 10+4≤s.length by omega),if_pos (show 8+2≤s.length by omega),if_pos (show 14+4≤s.length by omega),if_pos (show 22+4≤s.length by omega)]
 rw [show (67324752:Int)=((67324752:Nat):Int) from rfl,show (((leN s 4 2:Nat):Int)==20)=decide (leN s 4 2=20) from eqI _ 20,show (((leN s 6 2:Nat):Int)==0)=decide (leN s 6 2=0) from eqI _ 0,show (((leN s 28 2:Nat):Int)==0)=decide (leN s 28 2=0) from eqI _ 0,eqI]
 by_cases hd:leN s 0 4=67324752∧leN s 4 2=20∧leN s 6 2=0∧leN s 28 2=0
 ·rw [decide_eq_true hd.1,decide_eq_true hd.2.1,decide_eq_true hd.2.2.1,decide_eq_true hd.2.2.2]
  simp only [cond_true,Zaa,Bool.not_true,cond_false]
  rw [decide_eq_false (show ¬((leN s 26 2:Nat):Int)<0 by omega),decide_eq_false (show ¬((leN s 18 4:Nat):Int)<0 by omega)]
  simp only [cond_false,Zaa]
  rw [Zaf (n:=30+((leN s 26 2:Nat):Int)) (by omega) (by omega),Zaf (n:=30+((leN s 26 2:Nat):Int)+((leN s 18 4:Nat):Int)) (by omega) (by omega),show 30+((leN s 26 2:Nat):Int)+((leN s 18 4:Nat):Int)=((30+leN s 26 2+leN s 18 4:Nat):Int) by omega,show 30+((leN s 26 2:Nat):Int)=((30+leN s 26 2:Nat):Int) by omega]
  by_cases hbig:s.length<30+leN s 26 2+leN s 18 4
  ·have hno:Zf2 s=none:=by unfold Zf2;rw [if_neg h30,if_pos hbig]
   rw [decide_eq_true (by omega),cond_true]
   refine .pure ?_
   unfold ZmJ
   rw [hno]
  rw [decide_eq_false (by omega),cond_false,Zab _ (by simp;omega),Zab _ (by simp;omega),ZwD _ (by omega)]
  simp only [Zaa]
  rw [Zab _ (by simp;omega),Zab _ (by simp;omega),Int.toNat_natCast,Int.toNat_natCast]
  have hbody:(s.take (30+leN s 26 2+leN s 18 4)).drop (30+leN s 26 2)=(s.drop (30+leN s 26 2)).take (leN s 18 4):=by
   rw [List.drop_take];congr 1;omega
  have hname:(s.take (30+leN s 26 2)).drop 30=(s.drop 30).take (leN s 26 2):=by
   rw [List.drop_take];congr 1;omega
  have hnl:((s.drop 30).take (leN s 26 2)).length=leN s 26 2:=by rw [List.length_take,List.length_drop];omega
  have hbl:((s.drop (30+leN s 26 2)).take (leN s 18 4)).length=leN s 18 4:=by rw [List.length_take,List.length_drop];omega
  rw [hbody,hname]
  have htx:∃(t:Str) (b:Bool),ZfF ((leN s 8 2:Nat):Int) ((s.drop (30+leN s 26 2)).take (leN s 18 4))=some (t,b)∧t.length≤1048576∧ZvT (leN s 8 2) ((s.drop (30+leN s 26 2)).take (leN s 18 4))=if b then some t else none:=by
   unfold ZfF ZvT
   by_cases c0:leN s 8 2=0
   ·rw [c0,if_pos rfl]
    exact ⟨_,true,rfl,by rw [hbl];omega,rfl⟩
   rw [show (((leN s 8 2:Nat):Int)==0)=false by simp only [beq_eq_false_iff_ne,ne_eq];omega,cond_false,if_neg c0,Zmz]
   have hle:=Zqs ((s.drop (30+leN s 26 2)).take (leN s 18 4))
   generalize ZgR ((s.drop (30+leN s 26 2)).take (leN s 18 4))=R at hle
   obtain ⟨t,n,ok⟩:=R
   dsimp only at hle
   simp only [Zaa]
   rw [show (((leN s 8 2:Nat):Int)==8)=decide (leN s 8 2=8) from eqI _ 8]
   by_cases c8:leN s 8 2=8
   ·rw [if_pos c8,decide_eq_true c8]
    cases ok with
    | false=>exact ⟨t,false,rfl,by omega,by rw [if_neg (by simp)];rfl⟩
    | true=>
     by_cases hn:n=((((s.drop (30+leN s 26 2)).take (leN s 18 4)).length:Nat):Int)
     ·exact ⟨t,true,by simp [hn],by omega,by rw [if_pos ⟨rfl,hn⟩];rfl⟩
     ·refine ⟨t,false,?_,by omega,by rw [if_neg (fun e=>hn e.2)];rfl⟩
      rw [beq_false_of_ne hn];rfl
   ·rw [if_neg c8,decide_eq_false c8]
    cases ok<;>exact ⟨t,false,rfl,by omega,rfl⟩
  obtain ⟨t,b,e,htl,hun⟩:=htx
  rw [e]
  simp only [Zaa]
  rw [ZmW t (by omega)]
  simp only [Zaa]
  rw [eqI,eqI]
  have hloc:Zf2 s=match (if b then some t else none) with
    | none=>none
    | some t=>if Zri s t then
     some (((s.drop 30).take (leN s 26 2),((stG (leN s 10 4)).y:Int),((stG (leN s 10 4)).mo:Int),((stG (leN s 10 4)).d:Int),((stG (leN s 10 4)).h:Int),((stG (leN s 10 4)).mi:Int),((stG (leN s 10 4)).sec:Int),t),30+leN s 26 2+leN s 18 4)
     else none:=by
   unfold Zf2;rw [if_neg h30,if_neg hbig,hun]<;>cases b<;>rfl
  cases b with
  | false=>
   simp only [cond_false,Zaa]
   refine .pure ?_
   unfold ZmJ
   rw [hloc]
   rfl
  | true=>
   simp only [if_true] at hloc
   simp only [cond_true]
   by_cases hc:leN s 14 4=ZoX t∧leN s 22 4=t.length
   ·rw [decide_eq_true hc.1,decide_eq_true hc.2]
    simp only [cond_true,Zaa]
    rw [ZfT _ (by omega)]
    simp only [Zaa]
    refine .pure ?_
    unfold ZmJ
    rw [hloc]
    by_cases hC:Zri s t
    ·rw [if_pos hC]
     show _=_
     have h1:=hC.1
     have h2:=hC.2.1
     have h3:=hC.2.2.1
     rw [h1,h2,decide_eq_true h3]
     rfl
    ·rw [if_neg hC]
     show (Zdu ((s.drop 30).take (leN s 26 2))&&(stM (stG (leN s 10 4)).y (stG (leN s 10 4)).mo (stG (leN s 10 4)).d (stG (leN s 10 4)).h (stG (leN s 10 4)).mi (stG (leN s 10 4)).sec&&decide (t.length≤300)))=false
     cases hn:Zdu ((s.drop 30).take (leN s 26 2)) with
     | false=>rfl
     | true=>
      cases hst:stM (stG (leN s 10 4)).y (stG (leN s 10 4)).mo (stG (leN s 10 4)).d (stG (leN s 10 4)).h (stG (leN s 10 4)).mi (stG (leN s 10 4)).sec with
      | false=>rfl
      | true=>
       by_cases h3:t.length≤300
       ·exact absurd ⟨hn,hst,h3,hd.1,hd.2.1,hd.2.2.1,hd.2.2.2,hc.1,hc.2⟩ hC
       ·rw [decide_eq_false h3];rfl
   ·have hC:¬Zri s t:=fun q=>hc ⟨q.2.2.2.2.2.2.2.1,q.2.2.2.2.2.2.2.2⟩
    rw [if_neg hC] at hloc
    have e2:(bif decide (leN s 14 4=ZoX t) then some (decide (leN s 22 4=t.length)) else some false)=some false:=by
     by_cases h1:leN s 14 4=ZoX t
     ·rw [decide_eq_true h1,decide_eq_false (fun q=>hc ⟨h1,q⟩)];rfl
     ·rw [decide_eq_false h1];rfl
    rw [e2]
    simp only [Zaa,cond_false]
    refine .pure ?_
    unfold ZmJ
    rw [hloc]
 ·have hh:(bif decide (leN s 0 4=67324752) then bif decide (leN s 4 2=20) then bif decide (leN s 6 2=0) then some (decide (leN s 28 2=0)) else some false else some false else some false)=some false:=by
   by_cases a1:leN s 0 4=67324752
   ·by_cases a2:leN s 4 2=20
    ·by_cases a3:leN s 6 2=0
     ·rw [decide_eq_true a1,decide_eq_true a2,decide_eq_true a3,decide_eq_false (fun a4=>hd ⟨a1,a2,a3,a4⟩)];rfl
     ·rw [decide_eq_true a1,decide_eq_true a2,decide_eq_false a3];rfl
    ·rw [decide_eq_true a1,decide_eq_false a2];rfl
   ·rw [decide_eq_false a1];rfl
  rw [hh]
  simp only [Zaa,Bool.not_false,cond_true]
  refine .pure ?_
  unfold ZmJ
  have hno:Zf2 s=none:=by
   unfold Zf2
   rw [if_neg h30]
   split
   ·rfl
   ·split
    ·rfl
    ·rw [if_neg (fun q=>hd ⟨q.2.2.2.1,q.2.2.2.2.1,q.2.2.2.2.2.1,q.2.2.2.2.2.2.1⟩)]
  rw [hno]
end Ev
end
section
namespace Ev
open Go
def Zfu (a b:Str):Bool:=decide (a.length<b.length)&&((b.take a.length==a)&&(b.getD a.length 0==47))
def pre (s p:Str):Bool:=decide (p.length≤s.length)&&(s.take p.length==p)
theorem Zjy (a b:Str):Zdd a b=some (Zfu a b):=by
 unfold Zdd Zfu
 simp only [Zhj,gt_iff_lt,Int.toNat_natCast]
 by_cases h:a.length<b.length
 ·rw [if_pos (by omega),Zab _ (ZiF (by omega)),Zab _ (Zaw h),decide_eq_true h]
  have hb:=ZvE (b.getD a.length 0) 47 (by decide)
  rw [show ((47:Nat):Int)=47 from rfl] at hb
  rw [hb,show UInt8.ofNat 47=47 from rfl]
  cases (b.take a.length==a)<;>rfl
 ·rw [if_neg (by omega),decide_eq_false h];rfl
theorem Zqj (s p:Str):ZcE s p=some (pre s p):=by
 unfold ZcE Zcz pre
 simp only [Zhj,ge_iff_le,Int.toNat_natCast]
 by_cases h:p.length≤s.length
 ·rw [if_pos (by omega),Zab _ (ZiF h),decide_eq_true h];rfl
 ·rw [if_neg (by omega),decide_eq_false h];rfl
theorem Zip (a b:Str):pre b (a++[47])=Zfu a b:=by
 unfold pre Zfu
 rw [Bool.eq_iff_iff]
 simp only [Bool.and_eq_true,decide_eq_true_eq,beq_iff_eq,List.length_append,List.length_singleton]
 constructor
 ·rintro ⟨h1,h2⟩
  have h3:a.length<b.length:=by omega
  rw [List.take_succ_eq_append_getElem h3] at h2
  obtain ⟨e1,e2⟩:=List.append_inj h2 (by simp;omega)
  refine ⟨h3,e1,?_⟩
  simp at e2
  simp [List.getD,h3,e2]
 ·rintro ⟨h1,h2,h3⟩
  refine ⟨by omega,?_⟩
  rw [List.take_succ_eq_append_getElem h1,h2]
  have:b[a.length]=47:=by simpa [List.getD,h1] using h3
  rw [this]
theorem Zs4 (a:Str):Zfu a a=false:=by unfold Zfu;simp
end Ev
end
section
namespace Ev
open Go
def hit (a b:Str):Bool:=a==b||(pre a (b++[47])||pre b (a++[47]))
theorem Zw3 (names u:List Str) (a:Str) (t3:List Str) (t4 t5:Int) (ha:a.length≤1048576) (hu:∀b,b∈u→b.length≤1048576) (hul:u.length≤1048576):∀k j,j+k=u.length→
  Zc6.l0 (k+1) (names,a,t3,t4,t5,u,(u.length:Int),(j:Int))=some (if (u.drop j).all (fun b=>!hit a b) then .inl (names,t3,t4,t5) else .inr (.inr false)):=by
 intro k
 induction k with
 | zero=>
  intro j hj
  rw [Zc6.l0.succ]
  simp only [Zc6.l0.step]
  rw [ZaZ (by omega),List.drop_eq_nil_of_le (by omega)]
  rfl
 | succ k ih=>
  intro j hj
  have hjl:j<u.length:=by omega
  have hd:u.drop j=u[j]::u.drop (j+1):=List.drop_eq_getElem_cons hjl
  have hg:u.getD j []=u[j]:=by simp [List.getD,hjl]
  have hm:=hu u[j] (List.getElem_mem hjl)
  rw [Zc6.l0.succ]
  simp only [Zc6.l0.step,Int.toNat_natCast,Zqj,Option.bind_some,hg]
  rw [Zab _ (Zaw hjl),ZaY hjl,cond_true,Zab _ (Zfr (by simp;omega)),Zab _ (Zfr (by simp;omega)),Zdv (by omega),ih (j+1) (by omega),hd,List.all_cons,hit]
  cases (a==u[j])<;>cases pre a (u[j]++[47])<;>cases pre u[j] (a++[47])<;>rfl
theorem Zw2 (names:List Str) (hn:names.length≤1048576) (hx:∀b,b∈names→b.length≤1048576):∀k i,i+k=names.length→
  Zc6.l1 (k+1) (names,names,(names.length:Int),(i:Int))=some (if (List.range' i k).all (fun i=>(names.take i).all (fun b=>!hit (names.getD i []) b)) then .inl () else .inr false):=by
 intro k
 induction k with
 | zero=>
  intro i hi
  rw [Zc6.l1.succ]
  simp only [Zc6.l1.step]
  rw [ZaZ (by omega)]
  rfl
 | succ k ih=>
  intro i hi
  have hil:i<names.length:=by omega
  have hg:names.getD i []=names[i]:=by simp [List.getD,hil]
  rw [Zc6.l1.succ]
  simp only [Zc6.l1.step,Int.toNat_natCast]
  rw [Zab _ (Zaw hil),Zab _ (ZiF (by omega)),ZaY hil,cond_true,ZaG]
  have h0:=Zw3 names (names.take i) (names.getD i []) names (names.length:Int) (i:Int) (by rw [hg];exact hx _ (List.getElem_mem hil)) (fun b hb=>hx b (List.mem_of_mem_take hb)) (by simp;omega) (names.take i).length 0 (by omega)
  rw [show ((0:Nat):Int)=0 from rfl,List.drop_zero] at h0
  rw [h0,List.range'_succ,List.all_cons]
  cases (names.take i).all (fun b=>!hit (names.getD i []) b) with
  | false=>rfl
  | true=>
   simp only [if_true,Option.bind_some,Bool.true_and]
   rw [Zdv (by omega)]
   exact ih (i+1) (by omega)
theorem Zw4 (names:List Str) (hn:names.length≤1048576) (hx:∀b,b∈names→b.length≤1048576):Zc6 names=some ((List.range names.length).all (fun i=>(names.take i).all (fun b=>!hit (names.getD i []) b))):=by
 unfold Zc6
 have h:=Zw2 names hn hx names.length 0 (by omega)
 rw [show ((0:Nat):Int)=0 from rfl] at h
 rw [ZaG,h,List.range_eq_range']
 cases (List.range' 0 names.length).all (fun i=>(names.take i).all (fun b=>!hit (names.getD i []) b))<;>rfl
end Ev
end
section
namespace Ev
open Go
def Fil.z:Fil:=([],0,0,0,0,0,0,[])
def ZbY (e:Fil):Bool:=Zdu e.1&&(stM e.2.1 e.2.2.1 e.2.2.2.1 e.2.2.2.2.1 e.2.2.2.2.2.1 e.2.2.2.2.2.2.1&&decide (e.2.2.2.2.2.2.2.length≤300))
theorem ZrK (es:List Fil) (hn:es.length≤1048576) (hx:∀e∈es,e.1.length≤1048576):∀(j i:Nat),i+j=es.length→
  ZcY.l0 (j+1) (es,es,(es.length:Int),(i:Int))=some (if (es.drop i).all ZbY then .inl es else .inr false)
 | 0,i,h=>by
  rw [ZcY.l0.succ];simp only [ZcY.l0.step]
  rw [ZaZ (by omega),List.drop_eq_nil_of_le (by omega)];rfl
 | j+1,i,h=>by
  have hi:i<es.length:=by omega
  rw [ZcY.l0.succ];simp only [ZcY.l0.step]
  rw [ZaY hi,cond_true,Zab _ ZaB,Int.toNat_natCast,show es.getD i ([],0,0,0,0,0,0,[])=es[i] from Zam hi,ZjN _ (hx _ (List.getElem_mem hi)),Zaf (by omega) (by omega),show (i:Int)+1=((i+1:Nat):Int) by omega,
   ZrK es hn hx j (i+1) (by omega),List.drop_eq_getElem_cons hi,List.all_cons]
  simp only [Zaa]
  have e:(Zdu es[i].1&&(stM es[i].2.1 es[i].2.2.1 es[i].2.2.2.1 es[i].2.2.2.2.1 es[i].2.2.2.2.2.1 es[i].2.2.2.2.2.2.1&&decide (es[i].2.2.2.2.2.2.2.length≤300)))=ZbY es[i]:=rfl
  rw [e]
  cases ZbY es[i]<;>rfl
theorem Zna (es:List Fil) (hn:es.length≤1048576):∀(j i:Nat) (out:List Str),i+j=es.length→out.length=i→
  Zb9.l0 (j+1) (es,(es.length:Int),(i:Int),out)=some (out++(es.drop i).map Prod.fst)
 | 0,i,out,h,ho=>by
  rw [Zb9.l0.succ];simp only [Zb9.l0.step]
  rw [ZaZ (by omega),List.drop_eq_nil_of_le (by omega)];simp
 | j+1,i,out,h,ho=>by
  have hi:i<es.length:=by omega
  rw [Zb9.l0.succ];simp only [Zb9.l0.step]
  rw [ZaY hi,cond_true,Zab _ ZaB,Int.toNat_natCast,show es.getD i ([],0,0,0,0,0,0,[])=es[i] from Zam hi,Zad (by simp;omega),Zaf (by omega) (by omega),show (i:Int)+1=((i+1:Nat):Int) by omega,
   Zna es hn j (i+1) _ (by omega) (by simp [ho]),List.drop_eq_getElem_cons hi,List.map_cons,List.append_assoc]
  rfl
theorem Ztm (es:List Fil) (hn:es.length≤1048576):Zb9 es=some (es.map Prod.fst):=by
 have h:=Zna es hn es.length 0 [] (by omega) rfl
 rw [show ((0:Nat):Int)=0 from rfl,List.drop_zero,List.nil_append] at h
 unfold Zb9
 rw [ZaG,h];rfl
def Zgq (names:List Str):Bool:=(List.range names.length).all fun i=>(names.take i).all fun b=>!hit (names.getD i []) b
def ZeV (es:List Fil):Bool:=es.all ZbY&&(decide (es.length≤6)&&Zgq (es.map Prod.fst))
theorem Zkv (es:List Fil) (hn:es.length≤1048576) (hx:∀e∈es,e.1.length≤1048576):ZcY es=some (ZeV es):=by
 have h:=ZrK es hn hx es.length 0 (by omega)
 rw [show ((0:Nat):Int)=0 from rfl,List.drop_zero] at h
 unfold ZcY ZeV
 rw [ZaG,h]
 simp only [Zaa]
 cases es.all ZbY with
 | false=>rfl
 | true=>
  simp only [if_true,Bool.true_and]
  by_cases h6:es.length≤6
  ·rw [decide_eq_true (by omega),decide_eq_true h6,cond_true,Ztm es hn]
   simp only [Zaa]
   rw [Zw4 _ (by simpa using hn) (fun b hb=>by obtain ⟨e,he,rfl⟩:=List.mem_map.1 hb;exact hx e he)]
   rfl
  ·rw [decide_eq_false (by omega),decide_eq_false h6];rfl
end Ev
end
section
namespace Ev
open Go
def Zhh (es:List Fil) (i:Nat) (n:Str):Bool:=(es.take i).all fun e=>!(e.1==n)
theorem ZuZ (es:List Fil) (hn:es.length≤1048576) (i:Nat) (hi:i<es.length):∀(k j:Nat),j+k=i→(∀e∈es.take j,(e.1==(es.getD i Fil.z).1)=false)→∀F,k<F→
  ∃m:Nat,Zjz.l0 F (es,(es.getD i Fil.z).1,(j:Int))=some (.inr (m:Int))∧m≤i∧(m=i↔Zhh es i (es.getD i Fil.z).1=true)
 | 0,j,h,hj,0,hF=>absurd hF (by omega)
 | 0,j,h,hj,F+1,hF=>by
  have hji:j=i:=by omega
  subst hji
  refine ⟨j,?_,Nat.le_refl _,fun _=>?_,fun _=>rfl⟩
  ·rw [Zjz.l0.succ];simp only [Zjz.l0.step]
   rw [ZaY hi,cond_true,Zab _ ZaB,Int.toNat_natCast,show es.getD j ([],0,0,0,0,0,0,[])=es.getD j Fil.z from rfl,beq_self_eq_true,cond_true]
   rfl
  ·unfold Zhh
   rw [List.all_eq_true]
   intro e he
   rw [hj e he];rfl
 | k+1,j,h,hj,0,hF=>absurd hF (by omega)
 | k+1,j,h,hj,F+1,hF=>by
  have hlt:j<es.length:=by omega
  rw [Zjz.l0.succ];simp only [Zjz.l0.step]
  rw [ZaY hlt,cond_true,Zab _ ZaB,Int.toNat_natCast,show es.getD j ([],0,0,0,0,0,0,[])=es[j] from Zam hlt]
  cases hc:(es[j].1==(es.getD i Fil.z).1) with
  | true=>
   rw [cond_true]
   refine ⟨j,rfl,by omega,fun e=>by omega,fun e=>?_⟩
   exfalso
   unfold Zhh at e
   rw [List.all_eq_true] at e
   have hm:es[j]∈es.take i:=List.mem_take_iff_getElem.2 ⟨j,by omega,rfl⟩
   have:=e _ hm
   rw [hc] at this;cases this
  | false=>
   rw [cond_false,Zaf (by omega) (by omega),show (j:Int)+1=((j+1:Nat):Int) by omega]
   refine ZuZ es hn i hi k (j+1) (by omega) (fun e he=>?_) F (by omega)
   rw [List.take_succ_eq_append_getElem hlt] at he
   rcases List.mem_append.1 he with he | he
   ·exact hj e he
   ·have:e=es[j]:=by simpa using he
    subst this;exact hc
theorem ZuY (es:List Fil) (hn:es.length≤1048576) (i:Nat) (hi:i<es.length):(Zjz es (es.getD i Fil.z).1).bind (fun m=>some (m != (i:Int)))=some (!Zhh es i (es.getD i Fil.z).1):=by
 obtain ⟨m,e,hm,hf⟩:=ZuZ es hn i hi i 0 (by omega) (fun e he=>by simp at he) (es.length+1) (by omega)
 rw [show ((0:Nat):Int)=0 from rfl] at e
 unfold Zjz
 rw [ZaG,e]
 simp only [Zaa]
 cases hfm:Zhh es i (es.getD i Fil.z).1 with
 | true=>rw [hf.2 hfm];simp
 | false=>
  have:m≠i:=fun e=>by rw [hf.1 e] at hfm;cases hfm
  simp;omega
theorem Zj3 (es:List Fil) (hn:es.length≤1048576) (i:Nat) (hi:i<es.length):∀(k j:Nat),j+k=es.length→
  Zap.l0 (k+1) (es,(i:Int),(j:Int))=some (if (es.drop j).all (fun q=>!Zfu (es.getD i Fil.z).1 q.1) then .inl (es,(i:Int)) else .inr (.inr false))
 | 0,j,h=>by
  rw [Zap.l0.succ];simp only [Zap.l0.step]
  rw [ZaZ (by omega),List.drop_eq_nil_of_le (by omega)];rfl
 | k+1,j,h=>by
  have hj:j<es.length:=by omega
  rw [Zap.l0.succ];simp only [Zap.l0.step]
  rw [ZaY hj,cond_true,Zab _ (Zaw hi),Zab _ ZaB,Int.toNat_natCast,Int.toNat_natCast,show es.getD j ([],0,0,0,0,0,0,[])=es[j] from Zam hj,show es.getD i ([],0,0,0,0,0,0,[])=es.getD i Fil.z from rfl,Zjy,
   Zaf (by omega) (by omega),show (j:Int)+1=((j+1:Nat):Int) by omega,Zj3 es hn i hi k (j+1) (by omega),List.drop_eq_getElem_cons hj,List.all_cons]
  simp only [Zaa]
  cases Zfu (es.getD i Fil.z).1 es[j].1<;>rfl
def Zql (es:List Fil) (i:Nat):Bool:=ZbY (es.getD i Fil.z)&&(Zhh es i (es.getD i Fil.z).1&&es.all fun q=>!Zfu (es.getD i Fil.z).1 q.1)
theorem Zj2 (es:List Fil) (hn:es.length≤1048576) (hx:∀e∈es,e.1.length≤1048576):∀(k i:Nat),i+k=es.length→
  Zap.l1 (k+1) (es,(i:Int))=some (if (List.range' i k).all (Zql es) then .inl es else .inr false)
 | 0,i,h=>by
  rw [Zap.l1.succ];simp only [Zap.l1.step]
  rw [ZaZ (by omega)];rfl
 | k+1,i,h=>by
  have hi:i<es.length:=by omega
  have hself:=ZuY es hn i hi
  have h0:=Zj3 es hn i hi es.length 0 (by omega)
  rw [show ((0:Nat):Int)=0 from rfl,List.drop_zero] at h0
  rw [Zap.l1.succ];simp only [Zap.l1.step]
  rw [ZaY hi,cond_true,Zab _ ZaB,Int.toNat_natCast,show es.getD i ([],0,0,0,0,0,0,[])=es.getD i Fil.z from rfl,ZfT _ (by rw [Zam hi];exact hx _ (List.getElem_mem hi)),Zab _ ZaB,hself,ZaG,h0,List.range'_succ,List.all_cons]
  simp only [Zaa]
  have e:(Zdu (es.getD i Fil.z).1&&(stM (es.getD i Fil.z).2.1 (es.getD i Fil.z).2.2.1 (es.getD i Fil.z).2.2.2.1 (es.getD i Fil.z).2.2.2.2.1 (es.getD i Fil.z).2.2.2.2.2.1 (es.getD i Fil.z).2.2.2.2.2.2.1&&decide ((es.getD i Fil.z).2.2.2.2.2.2.2.length≤300)))=ZbY (es.getD i Fil.z):=rfl
  have g:Zql es i=(ZbY (es.getD i Fil.z)&&(Zhh es i (es.getD i Fil.z).1&&es.all fun q=>!Zfu (es.getD i Fil.z).1 q.1)):=rfl
  rw [e,g]
  cases ZbY (es.getD i Fil.z) with
  | false=>rfl
  | true=>
   cases Zhh es i (es.getD i Fil.z).1 with
   | false=>rfl
   | true=>
    cases es.all (fun q=>!Zfu (es.getD i Fil.z).1 q.1) with
    | false=>rfl
    | true=>
     simp only [Bool.not_true,cond_false,Zaa,if_true,Bool.true_and]
     rw [Zaf (by omega) (by omega),show (i:Int)+1=((i+1:Nat):Int) by omega]
     exact Zj2 es hn hx k (i+1) (by omega)
theorem Zpc (es:List Fil) (hn:es.length≤1048576) (hx:∀e∈es,e.1.length≤1048576):Zap es=some ((List.range es.length).all (Zql es)&&decide (es.length≤6)):=by
 have h:=Zj2 es hn hx es.length 0 (by omega)
 rw [show ((0:Nat):Int)=0 from rfl,←List.range_eq_range'] at h
 unfold Zap
 rw [ZaG,h]
 simp only [Zaa]
 cases (List.range es.length).all (Zql es) with
 | false=>rfl
 | true=>
  simp only [if_true,Bool.true_and]
  congr 1
  by_cases h6:es.length≤6
  ·rw [decide_eq_true h6,decide_eq_true (by omega)]
  ·rw [decide_eq_false h6,decide_eq_false (by omega)]
end Ev
end
section
namespace Ev
open Go
theorem Zvd (a b:Str):hit a b=false↔a≠b∧Zfu b a=false∧Zfu a b=false:=by
 unfold hit
 rw [Zip,Zip,Bool.or_eq_false_iff,Bool.or_eq_false_iff,beq_eq_false_iff_ne]
theorem ZpD {es:List Fil} {i:Nat} {e:Fil} (h:e∈es.take i):∃j,j<i∧j<es.length∧es.getD j Fil.z=e:=by
 obtain ⟨j,hj,rfl⟩:=List.getElem_of_mem h
 rw [List.length_take] at hj
 exact ⟨j,by omega,by omega,by rw [Zam (by omega),List.getElem_take]⟩
theorem Zo8 {es:List Fil} {i j:Nat} (h1:j<i) (h2:j<es.length):es.getD j Fil.z∈es.take i:=by
 rw [Zam h2];exact List.mem_take_iff_getElem.2 ⟨j,by omega,rfl⟩
theorem ZsD (es:List Fil) (i:Nat):(es.map Prod.fst).getD i []=(es.getD i Fil.z).1:=by
 simp only [List.getD_eq_getElem?_getD,List.getElem?_map]
 cases es[i]?<;>rfl
theorem Zxn (es:List Fil):ZeV es=true↔(∀i,i<es.length→ZbY (es.getD i Fil.z)=true)∧es.length≤6∧∀i j,i<es.length→j<i→(es.getD i Fil.z).1≠(es.getD j Fil.z).1∧Zfu (es.getD j Fil.z).1 (es.getD i Fil.z).1=false∧Zfu (es.getD i Fil.z).1 (es.getD j Fil.z).1=false:=by
 unfold ZeV Zgq
 rw [Bool.and_eq_true,Bool.and_eq_true,List.all_eq_true,List.all_eq_true,decide_eq_true_eq]
 constructor
 ·rintro ⟨h1,h2,h3⟩
  refine ⟨fun i hi=>h1 _ (by rw [Zam hi];exact List.getElem_mem hi),h2,fun i j hi hj=>?_⟩
  have h:=h3 i (List.mem_range.2 (by simpa using hi))
  rw [List.all_eq_true] at h
  have:=h (es.getD j Fil.z).1 (by rw [←List.map_take];exact List.mem_map.2 ⟨_,Zo8 hj (by omega),rfl⟩)
  rw [ZsD,Bool.not_eq_true',Zvd] at this
  exact this
 ·rintro ⟨h1,h2,h3⟩
  refine ⟨fun e he=>?_,h2,fun i hi=>?_⟩
  ·obtain ⟨i,hi,rfl⟩:=List.getElem_of_mem he
   have:=h1 i hi
   rwa [Zam hi] at this
  ·have hi:i<es.length:=by simpa using List.mem_range.1 hi
   rw [List.all_eq_true]
   intro b hb
   rw [←List.map_take] at hb
   obtain ⟨e,he,rfl⟩:=List.mem_map.1 hb
   obtain ⟨j,hj,_,rfl⟩:=ZpD he
   rw [ZsD,Bool.not_eq_true',Zvd]
   exact h3 i j hi hj
theorem ZwL (es:List Fil):((List.range es.length).all (Zql es)&&decide (es.length≤6))=true↔(∀i,i<es.length→ZbY (es.getD i Fil.z)=true)∧es.length≤6∧∀i j,i<es.length→j<i→(es.getD i Fil.z).1≠(es.getD j Fil.z).1∧Zfu (es.getD j Fil.z).1 (es.getD i Fil.z).1=false∧Zfu (es.getD i Fil.z).1 (es.getD j Fil.z).1=false:=by
 rw [Bool.and_eq_true,List.all_eq_true,decide_eq_true_eq]
 have un:∀i,Zql es i=true→ZbY (es.getD i Fil.z)=true∧Zhh es i (es.getD i Fil.z).1=true∧∀q∈es,Zfu (es.getD i Fil.z).1 q.1=false:=fun i h=>by
  unfold Zql at h
  rw [Bool.and_eq_true,Bool.and_eq_true,List.all_eq_true] at h
  exact ⟨h.1,h.2.1,fun q hq=>by have:=h.2.2 q hq;rwa [Bool.not_eq_true'] at this⟩
 constructor
 ·rintro ⟨h1,h2⟩
  refine ⟨fun i hi=>(un i (h1 i (List.mem_range.2 hi))).1,h2,fun i j hi hj=>⟨fun e=>?_,?_,?_⟩⟩
  ·have h:=(un i (h1 i (List.mem_range.2 hi))).2.1
   unfold Zhh at h
   rw [List.all_eq_true] at h
   have:=h _ (Zo8 hj (by omega))
   rw [←e,beq_self_eq_true] at this
   cases this
  ·exact (un j (h1 j (List.mem_range.2 (by omega)))).2.2 _ (by rw [Zam hi];exact List.getElem_mem hi)
  ·exact (un i (h1 i (List.mem_range.2 hi))).2.2 _ (by rw [Zam (by omega:j<es.length)];exact List.getElem_mem _)
 ·rintro ⟨h1,h2,h3⟩
  refine ⟨fun i hi=>?_,h2⟩
  have hi:=List.mem_range.1 hi
  unfold Zql
  rw [Bool.and_eq_true,Bool.and_eq_true,List.all_eq_true]
  refine ⟨h1 i hi,?_,fun q hq=>?_⟩
  ·unfold Zhh
   rw [List.all_eq_true]
   intro e he
   obtain ⟨j,hj,_,rfl⟩:=ZpD he
   rw [Bool.not_eq_true',beq_eq_false_iff_ne]
   exact fun e=>(h3 i j hi hj).1 e.symm
  ·obtain ⟨j,hj,rfl⟩:=List.getElem_of_mem hq
   rw [Bool.not_eq_true',←Zam (d:=Fil.z) hj]
   rcases Nat.lt_trichotomy i j with h | h | h
   ·exact (h3 j i hj h).2.1
   ·subst h;exact Zs4 _
   ·exact (h3 i j hi h).2.2
theorem Zi5 (es:List Fil) (hn:es.length≤1048576) (hx:∀e∈es,e.1.length≤1048576):Zap es=some (ZeV es):=by
 rw [Zpc es hn hx]
 congr 1
 rw [Bool.eq_iff_iff,ZwL,Zxn]
end Ev
end
section
namespace Ev
open Go
def ZhF (l:Str) (a:Nat):Str:=leB 33639248 4++leB 20 2++(l.take 30).drop 4++leB 0 10++leB a 4++(l.take (30+leN l 26 2)).drop 30
def Zch:List Str→Nat→Str
 | [],_=>[]
 | l::r,a=>ZhF l a++Zch r (a+l.length)
def ZtP (many long a:Nat):Str:=leB 101010256 4++leB 0 4++leB many 2++leB many 2++leB long 4++leB a 4++leB 0 2
def ZeS (ls:List Str):Nat:=(ls.map List.length).sum
def Zcx (ls:List Str):Str:=Zch ls 0++ZtP ls.length (Zch ls 0).length (ZeS ls)
def ZoR (l:Str):Prop:=30+leN l 26 2≤l.length∧l.length≤1048576
theorem Zhl (l:Str) (a:Nat) (h:ZoR l):(ZhF l a).length=46+leN l 26 2:=by
 have:=h.1
 unfold ZhF
 simp only [List.length_append,ZaK,List.length_drop,List.length_take]
 omega
theorem Zoy (ls:List Str) (h:∀l∈ls,ZoR l):∀a,(Zch ls a).length≤1100000*ls.length:=by
 induction ls with
 | nil=>intro a;simp [Zch]
 | cons l r ih=>
  intro a
  have h1:=Zhl l a (h l (by simp))
  have h2:=ih (fun x hx=>h x (by simp [hx])) (a+l.length)
  have:=(h l (by simp)).1
  have:=(h l (by simp)).2
  simp only [Zch,List.length_append,List.length_cons]
  omega
set_option maxRecDepth 100000 in
theorem ZnP (ls:List Str) (hn:ls.length≤1000) (hL:∀l∈ls,ZoR l):∀(j i:Nat) (heads:Str) (a:Nat),i+j=ls.length→heads.length≤2000000*i→a≤1048576*i→
  ZbG.l0 (j+1) (ls,heads,(a:Int),ls,(ls.length:Int),(i:Int))=some (ls,heads++Zch (ls.drop i) a,((a+ZeS (ls.drop i):Nat):Int))
 | 0,i,heads,a,h,hh,ha=>by
  rw [ZbG.l0.succ];simp only [ZbG.l0.step]
  rw [ZaZ (by omega),cond_false,List.drop_eq_nil_of_le (show ls.length≤i by omega)];simp [Zch,ZeS]
 | j+1,i,heads,a,h,hh,ha=>by
  have hi:i<ls.length:=by omega
  have hl:=hL ls[i] (List.getElem_mem hi)
  obtain ⟨hl1,hl2⟩:=hl
  have hc:=Zhl ls[i] a ⟨hl1,hl2⟩
  have n26:=Zfk ls[i] 26 2 (by omega) (by omega) (by omega) (by omega)
  have m20:=Zcq 20 2 (by omega) (by omega)
  have m0:=Zcq 0 10 (by omega) (by omega)
  have ma:=Zcq a 4 (by omega) (by omega)
  rw [show ((26:Nat):Int)=26 from rfl,show ((2:Nat):Int)=2 from rfl] at n26
  rw [show ((20:Nat):Int)=20 from rfl,show ((2:Nat):Int)=2 from rfl] at m20
  rw [show ((0:Nat):Int)=0 from rfl,show ((10:Nat):Int)=10 from rfl] at m0
  rw [show ((4:Nat):Int)=4 from rfl] at ma
  have hm:([80,75,1,2]:Str)=leB 33639248 4:=by decide
  have ih:=ZnP ls hn hL j (i+1) (heads++ZhF ls[i] a) (a+ls[i].length) (by omega) (by rw [List.length_append];omega) (by omega)
  rw [ZbG.l0.succ];simp only [ZbG.l0.step]
  rw [ZaY hi,cond_true,Zab _ ZaB,Int.toNat_natCast,show ls.getD i []=ls[i] from Zam hi,n26,m20,m0,ma,hm]
  simp only [Zaa]
  rw [Zaf (n:=30+((leN ls[i] 26 2:Nat):Int)) (by omega) (by omega),show 30+((leN ls[i] 26 2:Nat):Int)=((30+leN ls[i] 26 2:Nat):Int) by omega,Int.toNat_natCast,
   Zaf (n:=(a:Int)+((ls[i].length:Nat):Int)) (by omega) (by omega),show (a:Int)+((ls[i].length:Nat):Int)=((a+ls[i].length:Nat):Int) by omega,Zaf (n:=(i:Int)+1) (by omega) (by omega),show (i:Int)+1=((i+1:Nat):Int) by omega]
  have hcm:((((leB 33639248 4++leB 20 2)++((ls[i].take 30).drop 4))++leB 0 10)++leB a 4)++((ls[i].take (30+leN ls[i] 26 2)).drop 30)=ZhF ls[i] a:=rfl
  have L:∀n k,(leB n k).length=k:=ZaK
  have l1:((ls[i].take 30).drop 4).length=26:=by rw [List.length_drop,List.length_take];omega
  have l2:((ls[i].take (30+leN ls[i] 26 2)).drop 30).length=leN ls[i] 26 2:=by rw [List.length_drop,List.length_take];omega
  rw [Zad (by simp only [L];omega),Zab _ (by simp;omega),Zab _ (by decide),Zad (by simp only [List.length_append,L,l1];omega),Zad (by simp only [List.length_append,L,l1];omega),Zad (by simp only [List.length_append,L,l1];omega),
   Zab _ (by simp;omega),Zab _ (by simp;omega),Zad (by simp only [List.length_append,L,l1,l2];omega),Zad (by rw [hcm,hc];omega),hcm,ih,List.drop_eq_getElem_cons hi]
  simp only [Zch,ZeS,List.map_cons,List.sum_cons,List.append_assoc,Nat.add_assoc]
theorem Zxt (ls:List Str) (h:∀l∈ls,ZoR l):ZeS ls≤1048576*ls.length:=by
 induction ls with
 | nil=>simp [ZeS]
 | cons l r ih=>
  have h1:=(h l (by simp)).2
  have h2:=ih (fun x hx=>h x (by simp [hx]))
  simp only [ZeS,List.map_cons,List.sum_cons,List.length_cons] at h2 ⊢
  omega
theorem ZnQ (ls:List Str) (hn:ls.length≤1000) (hL:∀l∈ls,ZoR l):ZbG ls=some (Zcx ls):=by
 have h:=ZnP ls hn hL ls.length 0 [] 0 (by omega) (by simp) (by omega)
 rw [show ((0:Nat):Int)=0 from rfl,List.drop_zero,List.nil_append,Nat.zero_add] at h
 have hh:=Zoy ls hL 0
 have hs:=Zxt ls hL
 have n1:=Zcq ls.length 2 (by omega) (by omega)
 have n2:=Zcq 0 4 (by omega) (by omega)
 have n3:=Zcq (Zch ls 0).length 4 (by omega) (by omega)
 have n4:=Zcq (ZeS ls) 4 (by omega) (by omega)
 have n5:=Zcq 0 2 (by omega) (by omega)
 rw [show ((2:Nat):Int)=2 from rfl] at n1
 rw [show ((0:Nat):Int)=0 from rfl,show ((4:Nat):Int)=4 from rfl] at n2
 rw [show ((4:Nat):Int)=4 from rfl] at n3 n4
 rw [show ((0:Nat):Int)=0 from rfl,show ((2:Nat):Int)=2 from rfl] at n5
 have L:∀n k,(leB n k).length=k:=ZaK
 have hm:([80,75,5,6]:Str)=leB 101010256 4:=by decide
 unfold ZbG
 rw [ZaG,h]
 simp only [Zaa]
 rw [n1,n2,n3,n4,n5,hm]
 simp only [Zaa]
 rw [Zad (by simp only [L];omega),Zad (by simp only [List.length_append,L];omega),Zad (by simp only [List.length_append,L];omega),Zad (by simp only [List.length_append,L];omega),Zad (by simp only [List.length_append,L];omega),
  Zad (by simp only [List.length_append,L];omega),Zad (by simp only [List.length_append,L];omega)]
 unfold Zcx ZtP
 simp only [List.append_assoc]
end Ev
end
section
namespace Ev
open Go
theorem ZeI {s:Str} {e:Fil} {n:Nat} (h:Zf2 s=some (e,n)):n=30+leN s 26 2+leN s 18 4∧n≤s.length∧e.1=(s.drop 30).take (leN s 26 2):=by
 unfold Zf2 at h
 split at h
 ·cases h
 ·split at h
  ·cases h
  ·split at h
   ·cases h
   ·split at h
    ·obtain ⟨rfl,rfl⟩:=Prod.mk.inj (Option.some.inj h)
     exact ⟨rfl,by omega,rfl⟩
    ·cases h
theorem Zom (s:Str) (n a k:Nat) (h:a+k≤n):leN (s.take n) a k=leN s a k:=by
 unfold leN
 rw [List.drop_take,List.take_take,Nat.min_eq_left (by omega)]
theorem Zrh {s:Str} {e:Fil} {n:Nat} (h:Zf2 s=some (e,n)) (hs:s.length≤1048576):ZoR (s.take n)∧e.1.length≤1048576:=by
 obtain ⟨h1,h2,h3⟩:=ZeI h
 refine ⟨⟨?_,by rw [List.length_take];omega⟩,by rw [h3,List.length_take,List.length_drop];omega⟩
 rw [Zom s n 26 2 (by omega),List.length_take];omega
def Zbo:Nat→Str→List Fil×List Str×Str
 | 0,s=>([],[],s)
 | k+1,s=>match Zf2 s with
  | none=>([],[],s)
  | some (e,n)=>(e::(Zbo k (s.drop n)).1,s.take n::(Zbo k (s.drop n)).2.1,(Zbo k (s.drop n)).2.2)
def Zdl (s:Str):Option (List Fil):=if ZeV (Zbo 6 s).1=true∧(Zbo 6 s).2.2=Zcx (Zbo 6 s).2.1 then some (Zbo 6 s).1 else none
theorem Zlc:∀(k:Nat) (s:Str),s.length≤1048576→(Zbo k s).1.length≤k∧(Zbo k s).2.1.length≤k∧(∀e∈(Zbo k s).1,e.1.length≤1048576)∧∀l∈(Zbo k s).2.1,ZoR l
 | 0,s,hs=>by simp [Zbo]
 | k+1,s,hs=>by
  rw [Zbo]
  cases h:Zf2 s with
  | none=>simp
  | some p=>
   obtain ⟨e,n⟩:=p
   have h1:=Zrh h hs
   obtain ⟨q1,q2,q3,q4⟩:=Zlc k (s.drop n) (by rw [List.length_drop];omega)
   refine ⟨by simp;omega,by simp;omega,fun x hx=>?_,fun x hx=>?_⟩
   ·rcases List.mem_cons.1 hx with rfl | hx
    ·exact h1.2
    ·exact q3 x hx
   ·rcases List.mem_cons.1 hx with rfl | hx
    ·exact h1.1
    ·exact q4 x hx
theorem Zo1:∀(k:Nat) (s:Str) (out:List Fil) (ls:List Str),s.length≤1048576→out.length+k=6→ls.length≤6→
  ls.length=out.length→ZbE.l0 (k+1) (s,out,ls)=some ((Zbo k s).2.2,out++(Zbo k s).1,ls++(Zbo k s).2.1)
 | 0,s,out,ls,hs,h,hl,he=>by
  rw [ZbE.l0.succ];simp only [ZbE.l0.step]
  rw [decide_eq_false (by omega),cond_false];simp [Zbo]
 | k+1,s,out,ls,hs,h,hl,he=>by
  rw [ZbE.l0.succ];simp only [ZbE.l0.step]
  rw [decide_eq_true (by omega),cond_true,Zh4 s hs,Zbo]
  simp only [Zaa]
  cases hm:Zf2 s with
  | none=>simp [ZvY]
  | some p=>
   obtain ⟨e,n⟩:=p
   have h1:=ZeI hm
   unfold ZvY
   dsimp only
   rw [Bool.not_true,cond_false,Zad (by simp;omega),Zab _ (by simp;omega),Zad (by simp;omega),Int.toNat_natCast,Zab _ (by simp;omega),
    Zo1 k (s.drop n) _ _ (by rw [List.length_drop];omega) (by simp;omega) (by simp;omega) (by simp;omega)]
   simp
def zipZ:Option (List Fil)→Bool×List Fil
 | none=>(false,[])
 | some es=>(true,es)
theorem Zf3 (s:Str) (hs:s.length≤1048576):ZbE s=some (zipZ (Zdl s)):=by
 have h:=Zo1 6 s [] [] hs rfl (by simp) rfl
 obtain ⟨q1,q2,q3,q4⟩:=Zlc 6 s hs
 unfold ZbE
 rw [List.length_nil,show ((6-((0:Nat):Int)).toNat+1)=6+1 from rfl,h]
 simp only [Zaa,List.nil_append]
 rw [Zkv _ (by omega) q3]
 simp only [Zaa]
 unfold Zdl
 cases hz:ZeV (Zbo 6 s).1 with
 | false=>
  rw [if_neg (by simp)];rfl
 | true=>
  simp only [Bool.not_true,cond_false]
  rw [ZnQ _ (by omega) q4]
  simp only [Zaa]
  by_cases hc:(Zbo 6 s).2.2=Zcx (Zbo 6 s).2.1
  ·rw [if_pos ⟨trivial,hc⟩,hc,beq_self_eq_true];rfl
  ·rw [if_neg (fun q=>hc q.2),beq_false_of_ne hc];rfl
end Ev
end
section
namespace Ev
open Go
theorem Zsk (many long a:Nat) (h1:many≤100000) (h2:long≤1000000000000) (h3:a≤1000000000000):ZgW (many:Int) (long:Int) (a:Int)=some (ZtP many long a):=by
 have n1:=Zbb many 2 (by omega) (by omega)
 have n2:=Zbb 0 2 (by omega) (by omega)
 have n3:=Zbb long 4 (by omega) (by omega)
 have n4:=Zbb a 4 (by omega) (by omega)
 have n5:=Zbb 101010256 4 (by omega) (by omega)
 rw [show ((2:Nat):Int)=2 from rfl] at n1
 rw [show ((0:Nat):Int)=0 from rfl,show ((2:Nat):Int)=2 from rfl] at n2
 rw [show ((4:Nat):Int)=4 from rfl] at n3 n4
 rw [show ((101010256:Nat):Int)=101010256 from rfl,show ((4:Nat):Int)=4 from rfl] at n5
 have L:∀n k,(leB n k).length=k:=ZaK
 have z:leB 0 4=leB 0 2++leB 0 2:=by decide
 unfold ZgW
 rw [n1,n2,n3,n4,n5]
 simp only [Zaa]
 rw [Zad (by simp only [L];omega),Zad (by simp only [List.length_append,L];omega),Zad (by simp only [List.length_append,L];omega),Zad (by simp only [List.length_append,L];omega),Zad (by simp only [List.length_append,L];omega),
  Zad (by simp only [List.length_append,L];omega),Zad (by simp only [List.length_append,L];omega)]
 unfold ZtP
 rw [z]
 simp only [List.append_assoc]
theorem Zfs (many long a:Nat):(ZtP many long a).length=22:=by
 unfold ZtP;simp only [List.length_append,ZaK]
theorem ZpP {s:Str} (h:leN s 0 4≠67324752):Zf2 s=none:=by
 unfold Zf2
 split
 ·rfl
 ·split
  ·rfl
  ·split
   ·rfl
   ·rw [if_neg (fun q=>h q.2.2.2.1)]
theorem Zrl (n k:Nat) (r:Str) (hn:n<256^k):leN (leB n k++r) 0 k=n:=by
 unfold leN
 rw [List.drop_zero,List.take_append_of_le_length (by rw [ZaK];exact Nat.le_refl _),List.take_of_length_le (by rw [ZaK];exact Nat.le_refl _),Zrk,Nat.mod_eq_of_lt hn]
theorem Zme (ls:List Str) (a m lo at_:Nat):Zf2 (Zch ls a++ZtP m lo at_)=none:=by
 apply ZpP
 cases ls with
 | nil=>
  unfold ZtP Zch
  simp only [List.nil_append,List.append_assoc]
  rw [Zrl _ _ _ (by omega)];omega
 | cons l r=>
  unfold Zch ZhF
  simp only [List.append_assoc]
  rw [Zrl _ _ _ (by omega)];omega
end Ev
end
section
namespace Ev
open Go
def sub (s:Str) (i j:Nat):Str:=(s.take j).drop i
def ZhV (s:Str) (h a:Nat):Prop:=h+46+leN s (h+28) 2≤s.length∧a+30+leN s (h+28) 2≤s.length∧
 sub s (h+6) (h+32)=sub s (a+4) (a+30)∧sub s (h+46) (h+(46+leN s (h+28) 2))=sub s (a+30) (a+30+leN s (h+28) 2)∧
 sub s h (h+6)=leB 33639248 4++leB 20 2∧sub s (h+32) (h+46)=leB 0 10++leB a 4
set_option maxRecDepth 100000 in
theorem ZuX (s:Str) (hs:s.length≤1048576) (h a:Nat) (hh:h≤2000000) (ha:a≤2000000) :
  Ret (ZfE s (h:Int) (a:Int)) fun r=>(r.2=true↔ZhV s h a)∧(ZhV s h a→r.1=((46+leN s (h+28) 2:Nat):Int)):=by
 unfold ZfE
 have two:=Zge s (h+28) 2
 have q:=Zoo s (h+28) 2 (by omega) (by omega) (by omega) (by omega)
 rw [show ((2:Nat):Int)=2 from rfl] at q
 rw [Zaf (n:=(h:Int)+28) (by omega) (by omega),show (h:Int)+28=((h+28:Nat):Int) by omega,q]
 simp only [Zaa]
 by_cases c30:h+28+2≤s.length
 ·rw [if_pos c30,decide_eq_false (show ¬((leN s (h+28) 2:Nat):Int)<0 by omega),cond_false,
   Zaf (n:=46+((leN s (h+28) 2:Nat):Int)) (by omega) (by omega),Zaf (n:=(h:Int)+(46+((leN s (h+28) 2:Nat):Int))) (by omega) (by omega),Zaf (n:=(a:Int)+30) (by omega) (by omega),Zaf (n:=(a:Int)+30+((leN s (h+28) 2:Nat):Int)) (by omega) (by omega)]
  by_cases c1:h+46+leN s (h+28) 2≤s.length
  ·by_cases c2:a+30+leN s (h+28) 2≤s.length
   ·rw [decide_eq_false (by omega),cond_false,decide_eq_false (by omega)]
    simp only [Zaa,cond_false]
    have n1:=Zbb 33639248 4 (by omega) (by omega)
    have n2:=Zbb 20 2 (by omega) (by omega)
    have n3:=Zbb 0 10 (by omega) (by omega)
    have n4:=Zbb a 4 (by omega) (by omega)
    rw [show ((33639248:Nat):Int)=33639248 from rfl,show ((4:Nat):Int)=4 from rfl] at n1
    rw [show ((20:Nat):Int)=20 from rfl,show ((2:Nat):Int)=2 from rfl] at n2
    rw [show ((0:Nat):Int)=0 from rfl,show ((10:Nat):Int)=10 from rfl] at n3
    rw [show ((4:Nat):Int)=4 from rfl] at n4
    rw [n1,n2,n3,n4]
    simp only [Zaa]
    rw [Zaf (n:=(h:Int)+32) (by omega) (by omega),Zaf (n:=(h:Int)+6) (by omega) (by omega),Zaf (n:=(a:Int)+4) (by omega) (by omega),Zaf (n:=(h:Int)+46) (by omega) (by omega)]
    rw [show (h:Int)+32=((h+32:Nat):Int) by omega,show (h:Int)+6=((h+6:Nat):Int) by omega,show (a:Int)+4=((a+4:Nat):Int) by omega,show (h:Int)+46=((h+46:Nat):Int) by omega,show (a:Int)+30+((leN s (h+28) 2:Nat):Int)=((a+30+leN s (h+28) 2:Nat):Int) by omega,
     show (a:Int)+30=((a+30:Nat):Int) by omega,show (h:Int)+(46+((leN s (h+28) 2:Nat):Int))=((h+(46+leN s (h+28) 2):Nat):Int) by omega]
    simp only [Int.toNat_natCast]
    have L:∀n k,(leB n k).length=k:=ZaK
    repeat rw [Zab _ (by simp;omega)]
    repeat rw [Zad (by simp only [L];omega)]
    repeat rw [Zab _ (by simp;omega)]
    repeat rw [Zad (by simp only [L];omega)]
    repeat rw [Zab _ (by simp;omega)]
    have hH:ZhV s h a↔(((sub s (h+6) (h+32)==sub s (a+4) (a+30))=true∧(sub s (h+46) (h+(46+leN s (h+28) 2))==sub s (a+30) (a+30+leN s (h+28) 2))=true)∧
      (sub s h (h+6)==leB 33639248 4++leB 20 2)=true∧(sub s (h+32) (h+46)==leB 0 10++leB a 4)=true):=by
     unfold ZhV
     simp only [beq_iff_eq]
     constructor
     ·rintro ⟨_,_,q1,q2,q3,q4⟩;exact ⟨⟨q1,q2⟩,q3,q4⟩
     ·rintro ⟨⟨q1,q2⟩,q3,q4⟩;exact ⟨c1,c2,q1,q2,q3,q4⟩
    rw [hH]
    unfold sub
    generalize (((s.take (h+32)).drop (h+6))==((s.take (a+30)).drop (a+4)))=b1
    generalize (((s.take (h+(46+leN s (h+28) 2))).drop (h+46))==((s.take (a+30+leN s (h+28) 2)).drop (a+30)))=b2
    generalize (((s.take (h+6)).drop h)==leB 33639248 4++leB 20 2)=b3
    generalize (((s.take (h+46)).drop (h+32))==leB 0 10++leB a 4)=b4
    cases b1<;>cases b2<;>cases b3<;>cases b4<;>refine ⟨(46+((leN s (h+28) 2:Nat):Int),_),rfl,by simp,fun _=>by first | omega | (dsimp only;omega)⟩
   ·rw [decide_eq_false (by omega),cond_false,decide_eq_true (by omega)]
    exact ⟨_,rfl,⟨fun q=>absurd q (by simp),fun q=>absurd q.2.1 c2⟩,fun q=>absurd q.2.1 c2⟩
  ·rw [decide_eq_true (by omega),cond_true]
   exact ⟨_,rfl,⟨fun q=>absurd q (by simp),fun q=>absurd q.1 c1⟩,fun q=>absurd q.1 c1⟩
 ·rw [if_neg c30]
  have hz:¬ZhV s h a:=fun q=>by have:=q.1;omega
  exact ⟨_,rfl,⟨fun q=>absurd q (by simp),fun q=>absurd q hz⟩,fun q=>absurd q hz⟩
end Ev
end
section
namespace Ev
open Go
def Zes:Nat→Str→Option (List Fil×List Str)
 | 0,_=>some ([],[])
 | k+1,s=>match Zf2 s with
  | none=>none
  | some (e,n)=>(Zes k (s.drop n)).map fun p=>(e::p.1,s.take n::p.2)
theorem Zsj (s:Str) (hs:s.length≤1048576) (K:Nat) (hK:K≤1000):∀(k i a:Nat) (out:List Fil),i+k=K→a≤s.length→out.length=i→
  Ret (ZeK.l0 (k+1) (s,(K:Int),(a:Int),(i:Int),out)) fun r=>match Zes k (s.drop a) with
   | some (es,ls)=>r=.inl (((a+ZeS ls:Nat):Int),out++es)
   | none=>∃a' o',r=.inr (a',false,o')
 | 0,i,a,out,h,ha,ho=>by
  rw [ZeK.l0.succ];simp only [ZeK.l0.step]
  rw [ZaZ (by omega)]
  exact .pure (by simp [Zes,ZeS])
 | k+1,i,a,out,h,ha,ho=>by
  rw [ZeK.l0.succ];simp only [ZeK.l0.step]
  obtain ⟨r,er,hp⟩:=ZlA (s.drop a) (by rw [List.length_drop];omega)
  rw [ZaY (by omega),cond_true,Zab _ (by simp;omega),Int.toNat_natCast,er,Zes]
  simp only [Zaa]
  unfold ZmJ at hp
  cases hm:Zf2 (s.drop a) with
  | none=>
   rw [hm] at hp
   dsimp only at hp
   rw [hp]
   exact .pure ⟨_,_,rfl⟩
  | some p=>
   obtain ⟨e,n⟩:=p
   rw [hm] at hp
   have hsp:=ZeI hm
   rw [List.length_drop] at hsp
   subst hp
   unfold ZvY
   dsimp only
   rw [Bool.not_true,cond_false,Zad (by simp;omega),Zaf (n:=(a:Int)+(n:Int)) (by omega) (by omega),show (a:Int)+(n:Int)=((a+n:Nat):Int) by omega,Zaf (by omega) (by omega),show (i:Int)+1=((i+1:Nat):Int) by omega]
   refine (Zsj s hs K hK k (i+1) (a+n) _ (by omega) (by omega) (by simp;omega)).mono ?_
   intro r hr
   rw [List.drop_drop]
   cases hk:Zes k (s.drop (a+n)) with
   | none=>rw [hk] at hr;exact hr
   | some q=>
    obtain ⟨es,ls⟩:=q
    rw [hk] at hr
    dsimp only [Option.map_some]
    have hln:((s.drop a).take n).length=n:=by rw [List.length_take,List.length_drop];omega
    rw [hr]
    simp [ZeS,hln,Nat.add_assoc]
end Ev
end
section
namespace Ev
open Go
theorem ZhI (s:Str) (i j:Nat):sub s i j=(s.drop i).take (j-i):=by unfold sub;rw [List.drop_take]
theorem Zf7 (s:Str) {i j k:Nat} (h1:i≤j) (h2:j≤k):sub s i k=sub s i j++sub s j k:=by
 rw [ZhI,ZhI,ZhI,show k-i=(j-i)+(k-j) by omega,List.take_add,List.drop_drop,show i+(j-i)=j by omega]
theorem Zjd (s:Str) {i j p q:Nat} (h:i+p+q≤j):((sub s i j).drop p).take q=sub s (i+p) (i+p+q):=by
 rw [ZhI,ZhI,List.drop_take,List.take_take,List.drop_drop,Nat.min_eq_left (by omega),show i+p+q-(i+p)=q by omega]
theorem Zdj (s:Str) {i j:Nat} (h1:i≤j) (h2:j≤s.length):(sub s i j).length=j-i:=by
 rw [ZhI,List.length_take,List.length_drop];omega
theorem Zjx (s:Str) (a k:Nat):leN s a k=leV (sub s a (a+k)):=by
 unfold leN;rw [ZhI,show a+k-a=k by omega]
theorem ZkF (s:Str) (a b k:Nat):leN (s.drop a) b k=leN s (a+b) k:=by
 unfold leN;rw [List.drop_drop]
theorem ZjU (s:Str) (a n:Nat) (hn:30+leN s (a+26) 2≤n) :
  ZhF ((s.drop a).take n) a=(leB 33639248 4++leB 20 2)++(sub s (a+4) (a+30)++((leB 0 10++leB a 4)++sub s (a+30) (a+30+leN s (a+26) 2))):=by
 have e:leN ((s.drop a).take n) 26 2=leN s (a+26) 2:=by rw [Zom _ _ _ _ (by omega),ZkF]
 unfold ZhF
 rw [e]
 have p1:(((s.drop a).take n).take 30).drop 4=sub s (a+4) (a+30):=by
  rw [List.take_take,Nat.min_eq_left (by omega),List.drop_take,List.drop_drop,ZhI,show a+30-(a+4)=30-4 by omega]
 have p2:(((s.drop a).take n).take (30+leN s (a+26) 2)).drop 30=sub s (a+30) (a+30+leN s (a+26) 2):=by
  rw [List.take_take,Nat.min_eq_left (by omega),List.drop_take,List.drop_drop,ZhI];congr 1;omega
 rw [p1,p2]
 simp only [List.append_assoc]
theorem Zvf (s:Str) (a h n:Nat) (hn:30+leN s (a+26) 2≤n) (ha:a+n≤s.length) :
  ZhV s h a↔(s.drop h).take (46+leN s (a+26) 2)=ZhF ((s.drop a).take n) a:=by
 have L:∀n k,(leB n k).length=k:=ZaK
 rw [ZjU s a n hn]
 have e0:(s.drop h).take (46+leN s (a+26) 2)=sub s h (h+(46+leN s (a+26) 2)):=by
  rw [ZhI];congr 1;omega
 constructor
 ·rintro ⟨h1,h2,q1,q2,q3,q4⟩
  have e:leN s (h+28) 2=leN s (a+26) 2:=by
   rw [Zjx,Zjx]
   have r1:=Zjd s (i:=h+6) (j:=h+32) (p:=22) (q:=2) (by omega)
   have r2:=Zjd s (i:=a+4) (j:=a+30) (p:=22) (q:=2) (by omega)
   rw [q1,r2] at r1
   rw [show h+6+22=h+28 by omega,show a+4+22=a+26 by omega] at r1
   rw [r1]
  rw [e] at h1 h2 q2
  rw [e0,Zf7 s (i:=h) (j:=h+6) (by omega) (by omega),Zf7 s (i:=h+6) (j:=h+32) (by omega) (by omega),Zf7 s (i:=h+32) (j:=h+46) (by omega) (by omega),q1,q2,q3,q4]
 ·intro q
  have hl:((s.drop h).take (46+leN s (a+26) 2)).length=46+leN s (a+26) 2:=by
   rw [q]
   simp only [List.length_append,L]
   rw [Zdj s (by omega) (by omega),Zdj s (by omega) (by omega)]
   omega
  rw [List.length_take,List.length_drop] at hl
  have hb:h+46+leN s (a+26) 2≤s.length:=by omega
  rw [e0,Zf7 s (i:=h) (j:=h+6) (by omega) (by omega),Zf7 s (i:=h+6) (j:=h+32) (by omega) (by omega),Zf7 s (i:=h+32) (j:=h+46) (by omega) (by omega)] at q
  obtain ⟨q3,q⟩:=List.append_inj q (by rw [Zdj s (by omega) (by omega)];simp only [List.length_append,L];omega)
  obtain ⟨q1,q⟩:=List.append_inj q (by rw [Zdj s (by omega) (by omega),Zdj s (by omega) (by omega)];omega)
  obtain ⟨q4,q2⟩:=List.append_inj q (by rw [Zdj s (by omega) (by omega)];simp only [List.length_append,L];omega)
  have e:leN s (h+28) 2=leN s (a+26) 2:=by
   rw [Zjx,Zjx]
   have r1:=Zjd s (i:=h+6) (j:=h+32) (p:=22) (q:=2) (by omega)
   have r2:=Zjd s (i:=a+4) (j:=a+30) (p:=22) (q:=2) (by omega)
   rw [q1,r2] at r1
   rw [show h+6+22=h+28 by omega,show a+4+22=a+26 by omega] at r1
   rw [r1]
  unfold ZhV
  rw [e]
  exact ⟨hb,by omega,q1,q2,q3,q4⟩
def Zhp (s:Str):List Str→Nat→Nat→Prop
 | [],_,_=>True
 | l::r,h,a=>ZhV s h a∧Zhp s r (h+(46+leN l 26 2)) (a+l.length)
theorem Zo9 {α:Type} (x p q:List α):x.take (p.length+q.length)=p++q↔x.take p.length=p∧(x.drop p.length).take q.length=q:=by
 rw [List.take_add]
 constructor
 ·intro e
  by_cases h:p.length≤x.length
  ·exact List.append_inj e (by rw [List.length_take];omega)
  ·have h1:=congrArg List.length e
   simp only [List.length_append,List.length_take,List.length_drop] at h1
   omega
 ·rintro ⟨e1,e2⟩;rw [e1,e2]
theorem ZpO {s:Str} {a n:Nat} {e:Fil} (h:Zf2 (s.drop a)=some (e,n)):30+leN s (a+26) 2≤n∧n≤s.length-a∧((s.drop a).take n).length=n∧leN ((s.drop a).take n) 26 2=leN s (a+26) 2:=by
 obtain ⟨h1,h2,h3⟩:=ZeI h
 rw [List.length_drop] at h2
 rw [ZkF] at h1
 refine ⟨by omega,h2,by rw [List.length_take,List.length_drop];omega,by rw [Zom _ _ _ _ (by omega),ZkF]⟩
theorem Zpl:∀(k:Nat) (s:Str) {es:List Fil} {ls:List Str},Zes k s=some (es,ls)→ls.length=k∧es.length=k
 | 0,s,es,ls,h=>by
  obtain ⟨rfl,rfl⟩:=Prod.mk.inj (Option.some.inj h);exact ⟨rfl,rfl⟩
 | k+1,s,es,ls,h=>by
  rw [Zes] at h
  cases hm:Zf2 s with
  | none=>rw [hm] at h;cases h
  | some p=>
   obtain ⟨e,n⟩:=p
   rw [hm] at h
   dsimp only at h
   cases hk:Zes k (s.drop n) with
   | none=>rw [hk] at h;cases h
   | some q=>
    rw [hk] at h
    obtain ⟨rfl,rfl⟩:=Prod.mk.inj (Option.some.inj h)
    have:=Zpl k (s.drop n) (es:=q.1) (ls:=q.2) hk
    simp [this.1,this.2]
theorem Zqg (s:Str):∀(k:Nat) (a h:Nat) {es:List Fil} {ls:List Str},a≤s.length→Zes k (s.drop a)=some (es,ls)→
  (Zhp s ls h a↔(s.drop h).take (Zch ls a).length=Zch ls a)
 | 0,a,h,es,ls,ha,hr=>by
  obtain ⟨rfl,rfl⟩:=Prod.mk.inj (Option.some.inj hr)
  simp [Zhp,Zch]
 | k+1,a,h,es,ls,ha,hr=>by
  rw [Zes] at hr
  cases hm:Zf2 (s.drop a) with
  | none=>rw [hm] at hr;cases hr
  | some p=>
   obtain ⟨e,n⟩:=p
   rw [hm] at hr
   dsimp only at hr
   obtain ⟨h1,h2,h3,h4⟩:=ZpO hm
   rw [List.drop_drop] at hr
   cases hk:Zes k (s.drop (a+n)) with
   | none=>rw [hk] at hr;cases hr
   | some q=>
    obtain ⟨es',ls'⟩:=q
    rw [hk] at hr
    obtain ⟨rfl,rfl⟩:=Prod.mk.inj (Option.some.inj hr)
    have hc:(ZhF ((s.drop a).take n) a).length=46+leN s (a+26) 2:=by
     rw [ZjU s a n h1]
     simp only [List.length_append,ZaK]
     rw [Zdj s (by omega) (by omega),Zdj s (by omega) (by omega)]
     omega
    have ih:=Zqg s k (a+n) (h+(46+leN s (a+26) 2)) (by omega) hk
    unfold Zhp Zch
    rw [h3,h4,Zvf s a h n h1 (by omega),ih,List.length_append,Zo9,hc,List.drop_drop]
theorem Zkb:∀(K:Nat) (s:Str),Zes (Zbo K s).2.1.length s=some ((Zbo K s).1,(Zbo K s).2.1)∧(Zbo K s).2.2=s.drop (ZeS (Zbo K s).2.1)
 | 0,s=>by simp [Zbo,Zes,ZeS]
 | K+1,s=>by
  cases hm:Zf2 s with
  | none=>simp [Zbo,hm,Zes,ZeS]
  | some p=>
   obtain ⟨e,n⟩:=p
   obtain ⟨h1,h2⟩:=Zkb K (s.drop n)
   obtain ⟨_,hn,_⟩:=ZeI hm
   have e1:Zbo (K+1) s=(e::(Zbo K (s.drop n)).1,s.take n::(Zbo K (s.drop n)).2.1,(Zbo K (s.drop n)).2.2):=by rw [Zbo,hm]
   rw [e1]
   dsimp only
   rw [List.length_cons,Zes,hm]
   dsimp only
   rw [h1]
   refine ⟨rfl,?_⟩
   rw [h2,List.drop_drop]
   simp only [ZeS,List.map_cons,List.sum_cons,List.length_take]
   congr 1;omega
theorem Zkc:∀(k:Nat) (s:Str) {es:List Fil} {ls:List Str},Zes k s=some (es,ls)→∀K,k≤K→Zf2 (s.drop (ZeS ls))=none→Zbo K s=(es,ls,s.drop (ZeS ls))
 | 0,s,es,ls,h,K,hK,hs=>by
  obtain ⟨rfl,rfl⟩:=Prod.mk.inj (Option.some.inj h)
  have hs:Zf2 s=none:=by simpa [ZeS] using hs
  cases K with
  | zero=>simp [Zbo,ZeS]
  | succ K=>simp [Zbo,hs,ZeS]
 | k+1,s,es,ls,h,K,hK,hs=>by
  rw [Zes] at h
  cases hm:Zf2 s with
  | none=>rw [hm] at h;cases h
  | some p=>
   obtain ⟨e,n⟩:=p
   rw [hm] at h
   dsimp only at h
   cases hk:Zes k (s.drop n) with
   | none=>rw [hk] at h;cases h
   | some q=>
    obtain ⟨es',ls'⟩:=q
    rw [hk] at h
    obtain ⟨rfl,rfl⟩:=Prod.mk.inj (Option.some.inj h)
    obtain ⟨_,hn,_⟩:=ZeI hm
    have es1:ZeS (s.take n::ls')=n+ZeS ls':=by
     simp only [ZeS,List.map_cons,List.sum_cons,List.length_take];omega
    obtain ⟨K,rfl⟩:∃K',K=K'+1:=⟨K-1,by omega⟩
    have ih:=Zkc k (s.drop n) hk K (by omega) (by rw [List.drop_drop,←es1];exact hs)
    rw [Zbo,hm]
    dsimp only
    rw [ih,List.drop_drop,es1]
def Zuj (s:Str):Option (List Fil):=
 if s.length<12 then none else if 6<leN s (s.length-12) 2 then none else
  match Zes (leN s (s.length-12) 2) s with
  | none=>none
  | some (es,ls)=>if ZeV es=true∧s.drop (ZeS ls)=Zcx ls then some es else none
theorem ZpV (x y:Str) (b k:Nat):leN (x++y) (x.length+b) k=leN y b k:=by
 unfold leN;rw [←List.drop_drop,List.drop_left]
theorem Zvs (many long a:Nat) (h:many<65536):leN (ZtP many long a) 10 2=many:=by
 have e:ZtP many long a=(leB 101010256 4++leB 0 4++leB many 2)++(leB many 2++(leB long 4++leB a 4++leB 0 2)):=by unfold ZtP;simp only [List.append_assoc]
 have:=ZpV (leB 101010256 4++leB 0 4++leB many 2) (leB many 2++(leB long 4++leB a 4++leB 0 2)) 0 2
 simp only [List.length_append,ZaK] at this
 rw [e,this,Zrl _ _ _ (by omega)]
theorem Zv6 (s:Str) (hs:s.length≤1048576):Zuj s=Zdl s:=by
 by_cases H:ZeV (Zbo 6 s).1=true∧(Zbo 6 s).2.2=Zcx (Zbo 6 s).2.1
 ·obtain ⟨h1,h2⟩:=Zkb 6 s
  obtain ⟨_,q2,_,_⟩:=Zlc 6 s hs
  unfold Zdl
  rw [if_pos H]
  obtain ⟨H1,H2⟩:=H
  rw [h2] at H2
  have hl:=congrArg List.length H2
  unfold Zcx at hl
  rw [List.length_drop,List.length_append,Zfs] at hl
  have hm:leN s (s.length-12) 2=(Zbo 6 s).2.1.length:=by
   have e:s.length-12=ZeS (Zbo 6 s).2.1+((Zch (Zbo 6 s).2.1 0).length+10):=by omega
   rw [e,←ZkF,H2]
   unfold Zcx
   rw [ZpV,Zvs _ _ _ (by omega)]
  unfold Zuj
  rw [if_neg (by omega),hm,if_neg (by omega),h1]
  dsimp only
  rw [if_pos ⟨H1,H2⟩]
 ·unfold Zdl
  rw [if_neg H]
  unfold Zuj
  split
  ·rfl
  ·split
   ·rfl
   ·cases hk:Zes (leN s (s.length-12) 2) s with
    | none=>rfl
    | some q=>
     obtain ⟨es,ls⟩:=q
     dsimp only
     split
     ·rename_i h6 hc
      exfalso
      have:=Zkc _ s hk 6 (by omega) (by rw [hc.2];exact Zme _ _ _ _ _)
      rw [this] at H
      exact H hc
     ·rfl
end Ev
end
section
namespace Ev
open Go
theorem Zqh {s:Str} {h a:Nat} (q:ZhV s h a):leN s (h+28) 2=leN s (a+26) 2:=by
 obtain ⟨h1,h2,q1,_⟩:=q
 rw [Zjx,Zjx]
 have r1:=Zjd s (i:=h+6) (j:=h+32) (p:=22) (q:=2) (by omega)
 have r2:=Zjd s (i:=a+4) (j:=a+30) (p:=22) (q:=2) (by omega)
 rw [q1,r2] at r1
 rw [show h+6+22=h+28 by omega,show a+4+22=a+26 by omega] at r1
 rw [r1]
theorem Zim (s:Str) (hs:s.length≤1048576) (K:Nat) (hK:K≤1000) (at_:Int) (list:List Fil):∀(k i a h:Nat) {es:List Fil} {ls:List Str},i+k=K→a≤s.length→h≤s.length→Zes k (s.drop a)=some (es,ls)→
  Ret (ZaW.l0 (k+1) (s,(K:Int),at_,(h:Int),(a:Int),(i:Int),list)) fun r=>
   (Zhp s ls h a→r=.inl (s,(K:Int),at_,((h+(Zch ls a).length:Nat):Int),list)∧h+(Zch ls a).length≤s.length)∧(¬Zhp s ls h a→r=.inr (false,[]))
 | 0,i,a,h,es,ls,hi,ha,hh,hr=>by
  obtain ⟨rfl,rfl⟩:=Prod.mk.inj (Option.some.inj hr)
  rw [ZaW.l0.succ];simp only [ZaW.l0.step]
  rw [ZaZ (by omega)]
  exact .pure ⟨fun _=>⟨by simp [Zch],by simpa [Zch] using hh⟩,fun q=>absurd trivial q⟩
 | k+1,i,a,h,es,ls,hi,ha,hh,hr=>by
  rw [Zes] at hr
  cases hm:Zf2 (s.drop a) with
  | none=>rw [hm] at hr;cases hr
  | some p=>
   obtain ⟨e,n⟩:=p
   rw [hm] at hr
   dsimp only at hr
   obtain ⟨h1,h2,h3,h4⟩:=ZpO hm
   rw [List.drop_drop] at hr
   cases hk:Zes k (s.drop (a+n)) with
   | none=>rw [hk] at hr;cases hr
   | some q=>
    obtain ⟨es',ls'⟩:=q
    rw [hk] at hr
    obtain ⟨rfl,rfl⟩:=Prod.mk.inj (Option.some.inj hr)
    have hc:(ZhF ((s.drop a).take n) a).length=46+leN s (a+26) 2:=by
     rw [ZjU s a n h1]
     simp only [List.length_append,ZaK]
     rw [Zdj s (by omega) (by omega),Zdj s (by omega) (by omega)]
     omega
    rw [ZaW.l0.succ];simp only [ZaW.l0.step]
    rw [ZaY (by omega),cond_true]
    refine .bind (ZuX s hs h a (by omega) (by omega)) ?_
    rintro ⟨r3,r4⟩ ⟨g1,g2⟩
    dsimp only at g1 g2 ⊢
    cases r4 with
    | false=>
     have hn:¬ZhV s h a:=fun q=>by have:=g1.2 q;cases this
     exact .pure ⟨fun q=>absurd q.1 hn,fun _=>rfl⟩
    | true=>
     have hH:=g1.1 rfl
     have g2:=g2 hH
     rw [Zqh hH] at g2
     have hb:=hH.1
     rw [Zqh hH] at hb
     subst g2
     rw [Bool.not_true,cond_false,Zab _ (by simp;omega),Int.toNat_natCast]
     obtain ⟨r,er,hp⟩:=ZlA (s.drop a) (by rw [List.length_drop];omega)
     unfold ZmJ at hp
     rw [hm] at hp
     dsimp only at hp
     subst hp
     rw [er]
     unfold ZvY
     dsimp only
     simp only [Zaa]
     have two:=Zge s (a+26) 2
     rw [Zaf (n:=(h:Int)+((46+leN s (a+26) 2:Nat):Int)) (by omega) (by omega),Zaf (n:=(a:Int)+(n:Int)) (by omega) (by omega),Zaf (n:=(i:Int)+1) (by omega) (by omega),
      show (h:Int)+((46+leN s (a+26) 2:Nat):Int)=((h+(46+leN s (a+26) 2):Nat):Int) by omega,show (a:Int)+(n:Int)=((a+n:Nat):Int) by omega,show (i:Int)+1=((i+1:Nat):Int) by omega]
     refine (Zim s hs K hK at_ list k (i+1) (a+n) (h+(46+leN s (a+26) 2)) (by omega) (by omega) (by omega) hk).mono ?_
     rintro r ⟨f1,f2⟩
     unfold Zhp Zch
     rw [h3,h4,List.length_append,hc]
     refine ⟨fun q=>?_,fun q=>f2 fun q'=>q ⟨hH,q'⟩⟩
     obtain ⟨f,f'⟩:=f1 q.2
     exact ⟨by rw [f,Nat.add_assoc],by omega⟩
theorem Zpk:∀(k:Nat) (s:Str) {es:List Fil} {ls:List Str},Zes k s=some (es,ls)→ZeS ls≤s.length∧(s.length≤1048576→∀e∈es,e.1.length≤1048576)∧(s.length≤1048576→∀l∈ls,ZoR l)
 | 0,s,es,ls,h=>by
  obtain ⟨rfl,rfl⟩:=Prod.mk.inj (Option.some.inj h);simp [ZeS]
 | k+1,s,es,ls,h=>by
  rw [Zes] at h
  cases hm:Zf2 s with
  | none=>rw [hm] at h;cases h
  | some p=>
   obtain ⟨e,n⟩:=p
   rw [hm] at h
   dsimp only at h
   cases hk:Zes k (s.drop n) with
   | none=>rw [hk] at h;cases h
   | some q=>
    obtain ⟨es',ls'⟩:=q
    rw [hk] at h
    obtain ⟨rfl,rfl⟩:=Prod.mk.inj (Option.some.inj h)
    obtain ⟨i1,i2,i3⟩:=Zpk k (s.drop n) hk
    obtain ⟨_,hn,_⟩:=ZeI hm
    rw [List.length_drop] at i1 i2 i3
    refine ⟨?_,fun hs=>?_,fun hs=>?_⟩
    ·simp only [ZeS,List.map_cons,List.sum_cons,List.length_take] at i1 ⊢;omega
    ·intro x hx
     rcases List.mem_cons.1 hx with rfl | hx
     ·exact (Zrh hm hs).2
     ·exact i2 (by omega) x hx
    ·intro x hx
     rcases List.mem_cons.1 hx with rfl | hx
     ·exact (Zrh hm hs).1
     ·exact i3 (by omega) x hx
theorem Zn7 (s:Str) (hs:s.length≤1048576):ZaW s=some (zipZ (Zuj s)):=by
 unfold ZaW Zuj
 by_cases c12:s.length<12
 ·have e:Zb7 s (w64 ((s.length:Int)-12)) 2=some (-1):=by
   rw [Zaf (by omega) (by omega)]
   unfold Zb7
   rw [decide_eq_true (by omega)];rfl
  rw [e,if_pos c12]
  rfl
 rw [if_neg c12,Zaf (n:=(s.length:Int)-12) (by omega) (by omega),show (s.length:Int)-12=((s.length-12:Nat):Int) by omega]
 have q:=Zoo s (s.length-12) 2 (by omega) (by omega) (by omega) (by omega)
 rw [show ((2:Nat):Int)=2 from rfl,if_pos (by omega)] at q
 have two:=Zge s (s.length-12) 2
 rw [q]
 simp only [Zaa]
 generalize leN s (s.length-12) 2=m at two
 rw [ZkG]
 simp only [Zaa]
 by_cases c6:6<m
 ·rw [if_pos c6,decide_eq_false (by omega)];rfl
 rw [if_neg c6,decide_eq_true (by omega),Bool.not_true,cond_false]
 obtain ⟨r,er,hr⟩:=Zsj s hs m (by omega) m 0 0 [] (by omega) (by omega) rfl
 rw [show ((0:Nat):Int)=0 from rfl] at er
 rw [List.drop_zero] at hr
 unfold ZeK
 rw [ZaG,er]
 simp only [Zaa]
 cases hk:Zes m s with
 | none=>
  rw [hk] at hr
  dsimp only at hr
  obtain ⟨a',o',rfl⟩:=hr
  rfl
 | some p=>
  obtain ⟨es,ls⟩:=p
  rw [hk] at hr
  dsimp only at hr
  subst hr
  obtain ⟨i1,i2,i3⟩:=Zpk m s hk
  obtain ⟨n1,n2⟩:=Zpl m s hk
  dsimp only
  simp only [Zaa,Nat.zero_add,List.nil_append,Bool.not_true,cond_false]
  rw [Zi5 es (by omega) (i2 hs)]
  simp only [Zaa]
  cases hz:ZeV es with
  | false=>rw [if_neg (by simp)];rfl
  | true=>
   simp only [Bool.not_true,cond_false]
   obtain ⟨r,er,h1,h2⟩:=Zim s hs m (by omega) ((ZeS ls:Nat):Int) es m 0 0 (ZeS ls) (by omega) (by omega) i1 (by rw [List.drop_zero];exact hk)
   rw [show ((0:Nat):Int)=0 from rfl] at er
   rw [er]
   simp only [Zaa]
   have hi:=Zqg s m 0 (ZeS ls) (Nat.zero_le _) (by rw [List.drop_zero];exact hk)
   by_cases hH:Zhp s ls (ZeS ls) 0
   ·obtain ⟨rfl,hle⟩:=h1 hH
    have hH':=hi.1 hH
    dsimp only
    rw [Zab _ (by simp;omega),Zaf (by omega) (by omega),show (((ZeS ls+(Zch ls 0).length:Nat):Int)-((ZeS ls:Nat):Int))=(((Zch ls 0).length:Nat):Int) by omega,Int.toNat_natCast,Zsk m _ _ (by omega) (by omega) (by omega)]
    simp only [Zaa]
    have key:s.drop (ZeS ls)=Zcx ls↔s.drop (ZeS ls+(Zch ls 0).length)=ZtP m (Zch ls 0).length (ZeS ls):=by
     unfold Zcx
     rw [n1,←List.drop_drop]
     constructor
     ·intro e;rw [e,List.drop_left' rfl]
     ·intro e
      rw [←List.take_append_drop (Zch ls 0).length (s.drop (ZeS ls)),hH',e]
    by_cases hc:s.drop (ZeS ls)=Zcx ls
    ·rw [if_pos ⟨trivial,hc⟩,key.1 hc,beq_self_eq_true];rfl
    ·rw [if_neg (fun q=>hc q.2),beq_false_of_ne (fun q=>hc (key.2 q))];rfl
   ·obtain rfl:=h2 hH
    have hc:¬s.drop (ZeS ls)=Zcx ls:=fun q=>hH (hi.2 (by rw [q];unfold Zcx;rw [List.take_left' rfl]))
    rw [if_neg (fun q=>hc q.2)]
    rfl
theorem Zn8 (s:Str) (hs:s.length≤1048576):ZaW s=some (zipZ (Zdl s)):=by rw [Zn7 s hs,Zv6 s hs]
end Ev
end
section
namespace Ev
open Go
def Tk.Pos (ls ds:List Nat):Tk→Prop
 | .lit c=>c<ls.length∧0<ls.getD c 0
 | .far l k=>(257+ZbS ZaA l<ls.length∧0<ls.getD (257+ZbS ZaA l) 0)∧ZbS ZaP k<ds.length∧0<ds.getD (ZbS ZaP k) 0
theorem Zga (ns:List Nat) (hk:Zbq ns≤32768) (h15:∀n∈ns,n≤15) (i:Nat) (hi:i<ns.length) (h0:0<ns.getD i 0) (rest:List Bool):Zkh ns (some (Zij ns i++rest))=some (i,rest):=by
 rw [Zxr ns h15 i hi h0];exact ZuN ns hk h15 i hi h0 rest
theorem ZeA (k n:Nat) (rest:List Bool):ZbH k (some (ZbK n k++rest))=some rest:=by
 unfold ZbH
 dsimp only
 rw [if_pos (by rw [List.length_append,Zaj];omega),List.drop_left' (Zaj n k)]
theorem ZdO (k n:Nat) (hn:n<2^k) (rest:List Bool):Zco ((ZbK n k++rest).take k)=n:=by
 rw [List.take_left' (Zaj n k),ZkT,Nat.mod_eq_of_lt hn]
theorem ZuR (ds:List Nat) (hkd:Zbq ds≤32768) (hd:∀n∈ds,n≤15) (go:List Bool→List Int→Option (List Bool×List Int)) (l k:Nat) (h:(Tk.far l k).Ok)
  (hp:ZbS ZaP k<ds.length∧0<ds.getD (ZbS ZaP k) 0) (out o:List Int) (rest:List Bool) (hf:ZoW out l k=some o) :
  Znh ds go (ZbS ZaA l) (ZbK (l-ZaA.getD (ZbS ZaA l) 0) (Zcr.getD (ZbS ZaA l) 0)++(Zij ds (ZbS ZaP k)++(ZbK (k-ZaP.getD (ZbS ZaP k) 0) (Zc5.getD (ZbS ZaP k) 0)++rest))) out=go rest o:=by
 obtain ⟨h1,h2,h3,h4⟩:=h
 obtain ⟨_,_,a1,a2,a3⟩:=Ze0 l h1 h2
 obtain ⟨_,_,b1,b2,b3⟩:=Zfx k h3 h4
 unfold Znh
 rw [ZeA,Zga ds hkd hd _ hp.1 hp.2]
 dsimp only
 rw [if_neg (by omega),ZeA]
 dsimp only
 rw [ZdO _ _ a3,ZdO _ _ b3,show ZaA.getD (ZbS ZaA l) 0+(l-ZaA.getD (ZbS ZaA l) 0)=l by omega,show ZaP.getD (ZbS ZaP k) 0+(k-ZaP.getD (ZbS ZaP k) 0)=k by omega,hf]
theorem Zlq (ls ds:List Nat) (hkl:Zbq ls≤32768) (hkd:Zbq ds≤32768) (hl:∀n∈ls,n≤15) (hd:∀n∈ds,n≤15) (he:256<ls.length∧0<ls.getD 256 0) (s:Str) (hs:s.length≤300) (rest:List Bool) :
  ∀(F a f:Nat),a≤s.length→s.length≤a+F→(ZeF s F a).length<f→(∀t∈ZeF s F a,t.Pos ls ds)→Zr9 ls ds f (Zfh ls ds (ZeF s F a)++rest) (ints (s.take a))=some (rest,ints s)
 | 0,a,f,ha,hF,hf,hp=>by
  obtain ⟨f',rfl⟩:∃f',f=f'+1:=⟨f-1,by omega⟩
  rw [Zf9]
  unfold ZpF
  rw [if_neg (by rw [Zdz,List.length_take];omega)]
  simp only [ZeF,Zfh]
  rw [Zga ls hkl hl 256 he.1 he.2]
  dsimp only
  rw [if_pos rfl,List.take_of_length_le (by omega)]
 | F+1,a,f,ha,hF,hf,hp=>by
  obtain ⟨f',rfl⟩:∃f',f=f'+1:=⟨f-1,by omega⟩
  by_cases c:a<s.length
  ·have e:ZeF s (F+1) a=Zi0 s a::ZeF s F (a+(Zi0 s a).long):=by rw [ZeF,if_pos c]
   have hok:=Zkz s (F+1) a ha
   rw [e] at hf hp hok ⊢
   have hp0:=hp _ (List.mem_cons_self ..)
   have hp1:∀t∈ZeF s F (a+(Zi0 s a).long),t.Pos ls ds:=fun t ht=>hp t (List.mem_cons_of_mem _ ht)
   have hok0:=hok _ (List.mem_cons_self ..)
   rw [List.length_cons] at hf
   have hlong:=ZkZ s a
   rw [Zf9]
   unfold ZpF
   rw [if_neg (by rw [Zdz,List.length_take];omega),Zfh]
   cases ht:Zi0 s a with
   | lit ch=>
    have hch:=ZrP ht
    rw [ht] at hp0 hok0 hf hp1
    have hlt:ch<256:=hok0
    simp only [ZoU,List.append_assoc]
    rw [Zga ls hkl hl ch hp0.1 hp0.2]
    dsimp only
    rw [if_neg (by omega),if_pos hlt]
    have ih:=Zlq ls ds hkl hkd hl hd he s hs rest F (a+1) f' (by omega) (by omega) (by simpa [Tk.long] using hf) (by simpa [Tk.long] using hp1)
    have e1:ints (s.take (a+1))=ints (s.take a)++[(ch:Int)]:=by
     rw [Zjb s a 0 c,ZlJ,hch];rfl
    rw [←e1]
    exact ih
   | far l k=>
    obtain ⟨g1,g2,g3,g4,g5,g6⟩:=ZrQ ht ha
    rw [ht] at hp0 hok0 hf hp1
    obtain ⟨⟨q1,q2⟩,q3,q4⟩:=hp0
    obtain ⟨_,_,a1,_,_⟩:=Ze0 l g1 g2
    simp only [ZoU,List.append_assoc]
    rw [Zga ls hkl hl _ q1 q2]
    dsimp only
    rw [if_neg (by omega),if_neg (by omega),if_neg (by omega),Nat.add_sub_cancel_left,ZuR ds hkd hd _ l k hok0 ⟨q3,q4⟩ _ _ _ g6]
    exact Zlq ls ds hkl hkd hl hd he s hs rest F (a+l) f' (by omega) (by omega) (by simpa [Tk.long] using hf) (by simpa [Tk.long] using hp1)
  ·have e:ZeF s (F+1) a=[]:=by rw [ZeF,if_neg c]
   rw [e,Zf9]
   unfold ZpF
   rw [if_neg (by rw [Zdz,List.length_take];omega)]
   simp only [Zfh]
   rw [Zga ls hkl hl 256 he.1 he.2]
   dsimp only
   rw [if_pos rfl,List.take_of_length_le (by omega)]
theorem Zn3 (ns:List Nat) (i:Nat):(Zij ns i).length=ns.getD i 0:=by
 unfold Zij msb;rw [List.length_reverse,Zaj]
theorem Zo7 (ls ds:List Nat) (he:0<ls.getD 256 0):∀ts:List Tk,(∀t∈ts,t.Pos ls ds)→ts.length+1≤(Zfh ls ds ts).length
 | [],_=>by rw [Zfh,Zn3,List.length_nil];omega
 | t::r,h=>by
  have ih:=Zo7 ls ds he r (fun x hx=>h x (List.mem_cons_of_mem _ hx))
  have h0:=h t (List.mem_cons_self ..)
  have:1≤(ZoU ls ds t).length:=by
   cases t with
   | lit c=>rw [ZoU,Zn3];have:=h0.2;omega
   | far l k=>rw [ZoU,List.length_append,Zn3];have:=h0.1.2;omega
  rw [Zfh,List.length_append,List.length_cons];omega
theorem Zlz {ns:List Nat} (h:Zc0 ns=true):Zbq ns≤32768:=by
 unfold Zc0 at h
 simp only [Bool.and_eq_true,Bool.or_eq_true,decide_eq_true_eq] at h
 rcases h.2.2 with h | h
 ·omega
 ·omega
theorem Znd (ls ds:List Nat) (h1:Zc0 ls=true) (h2:Zc0 ds=true) (he:256<ls.length∧0<ls.getD 256 0) (s:Str) (hs:s.length≤300) (hp:∀t∈ZhH s,t.Pos ls ds) (rest:List Bool) :
  ZhD ls ds (some (Zfh ls ds (ZhH s)++rest)) []=some (rest,ints s):=by
 have hl:=Zo7 ls ds he.2 (ZhH s) hp
 unfold ZhD
 dsimp only
 rw [h1,h2,Bool.and_self,if_pos rfl]
 have:=Zlq ls ds (Zlz h1) (Zlz h2) (ZfC h1).2 (ZfC h2).2 he s hs rest s.length 0 ((Zfh ls ds (ZhH s)++rest).length+1) (Nat.zero_le _) (by omega) (by rw [List.length_append];unfold ZhH at hl;unfold ZhH;omega) hp
 exact this
theorem ZnY:∀n,Zco (List.replicate n false)=0
 | 0=>rfl
 | n+1=>by rw [List.replicate_succ,Zco,ZnY n];rfl
theorem Ztw (z:Nat) (h:z<8):ZdL (some (List.replicate z false))=some []:=by
 unfold ZdL
 dsimp only
 rw [List.length_replicate,Nat.mod_eq_of_lt h,List.take_of_length_le (by simp),ZnY,if_pos rfl,List.drop_eq_nil_of_le (by simp)]
theorem ZuP (b body:List Bool) (k:Nat) (hk:k<4) (o:List Int) (ho:o.length≤300) (hb:b=true::(ZbK k 2++body)) (h:∀rest,ZdU k (some (body++rest)) []=some (rest,o)) :
  Ztu (Zg3 b)=some (o,(Zg3 b).length):=by
 subst hb
 unfold Ztu
 rw [ZqN]
 unfold ZhE
 generalize hz:(8-(true::(ZbK k 2++body)).length%8)%8=z
 have hz8:z<8:=by rw [←hz];exact Nat.mod_lt _ (by decide)
 rw [List.cons_append,mGo,Zgb,List.append_assoc,ZdO 2 k (by omega),ZeA,h]
 simp only [Option.map_some,Option.bind_some]
 rw [if_neg (by omega),if_pos trivial]
 simp only [Option.bind_some]
 rw [Ztw z hz8]
 simp
theorem ZxP (t:Tk) (h:t.Ok):t.Pos ZlY ZmG:=by
 have hL:∀i,i<288→0<ZlY.getD i 0:=by decide +kernel
 have hD:∀i,i<32→0<ZmG.getD i 0:=by decide +kernel
 cases t with
 | lit c=>
  have h:c<256:=h
  exact ⟨by rw [ZcV];omega,hL c (by omega)⟩
 | far l k=>
  obtain ⟨h1,h2,h3,h4⟩:=h
  obtain ⟨_,_,a1,_,_⟩:=Ze0 l h1 h2
  obtain ⟨_,_,b1,_,_⟩:=Zfx k h3 h4
  exact ⟨⟨by rw [ZcV];omega,hL _ (by omega)⟩,by rw [ZgG];omega,hD _ (by omega)⟩
theorem ZtK:Zc0 ZlY=true:=by decide +kernel
theorem ZtL:Zc0 ZmG=true:=by decide +kernel
theorem Ztt (s:Str) (hs:s.length≤300):Ztu (ZgS s)=some (ints s,(ZgS s).length):=by
 unfold ZgS
 refine ZuP (Zvl s) (Zfh ZlY ZmG (ZhH s)) 1 (by omega) _ (by rw [Zdz];exact hs) ?_ fun rest=>?_
 ·unfold Zvl
  rw [List.append_assoc,show ZbK 1 1=[true] from rfl];rfl
 ·unfold ZdU
  rw [if_neg (by omega),if_pos rfl]
  exact Znd ZlY ZmG ZtK ZtL (by rw [ZcV];exact ⟨by omega,by decide +kernel⟩) s hs (fun t ht=>ZxP t (ZfS s t ht)) rest
theorem Zmi:∀s:Str,ZfL s.length (Zda s)=ints s
 | []=>rfl
 | c::r=>by
  rw [List.length_cons,ZfL,Zda,List.take_left' (Zaj _ _),List.drop_left' (Zaj _ _),Zmi r,ZkT,Nat.mod_eq_of_lt (by have:=c.toNat_lt;simpa using this)]
  rfl
theorem Zts (s:Str) (hs:s.length≤300):Ztu (ZgO s)=some (ints s,(ZgO s).length):=by
 have hb:Zda (ZgO s)=ZnB++(ZbK s.length 16++(ZbK (65535-s.length) 16++Zda s)):=by
  unfold ZgO
  rw [ZiU,ZgK 5 (Zfj s.length) (by unfold Zfj;simp only [List.length_append,Zaj];rfl)]
  unfold Zfj
  simp only [List.append_assoc]
 have hlen:(Zda s).length=8*s.length:=ZcQ s
 unfold Ztu
 rw [hb]
 have h8:∀r:List Bool,ZnB++r=true::(ZbK 0 2++(List.replicate 5 false++r)):=fun r=>rfl
 rw [h8,mGo,Zgb,ZdO 2 0 (by omega),ZeA]
 unfold ZdU
 rw [if_pos rfl]
 unfold Zfn ZdL
 dsimp only
 rw [show (List.replicate 5 false++(ZbK s.length 16++(ZbK (65535-s.length) 16++Zda s))).length%8=5 by simp only [List.length_append,List.length_replicate,Zaj,hlen];omega,
  List.take_left' (List.length_replicate ..),ZnY,if_pos rfl,List.drop_left' (List.length_replicate ..)]
 dsimp only
 rw [ZeA]
 dsimp only
 rw [ZeA]
 dsimp only
 rw [ZdO 16 s.length (by omega),ZdO 16 (65535-s.length) (by omega),if_neg (by omega)]
 simp only [Option.map_some,Option.bind_some,List.nil_append]
 rw [if_neg (by rw [Zfc];omega),if_pos trivial,Zmi,List.drop_eq_nil_of_le (by omega)]
 simp [Zco]
end Ev
end
section
namespace Ev
open Go
theorem Znf (M:List Nat) (h7:∀i,M.getD i 0≤7) (rest:List Bool):∀(is A:List Nat),ZgA is (Zei M is++rest) A=some (rest,is.foldl (fun A k=>A.set k (M.getD k 0)) A)
 | [],A=>rfl
 | k::r,A=>by
  have e:Zei M (k::r)=ZbK (M.getD k 0) 3++Zei M r:=by simp [Zei]
  have:=h7 k
  rw [e,List.append_assoc,ZgA,ZeA]
  dsimp only
  rw [ZdO 3 _ (by omega),Znf M h7 rest r]
  rfl
theorem Ztg (a0 a1 a2 a3 a4 a5 a6 a7 a8 a9 a10 a11 a12 a13 a14 a15 a16 a17 a18:Nat):ZaQ.foldl (fun A k=>A.set k ([a0,a1,a2,a3,a4,a5,a6,a7,a8,a9,a10,a11,a12,a13,a14,a15,a16,a17,a18].getD k 0)) (List.replicate 19 0)=[a0,a1,a2,a3,a4,a5,a6,a7,a8,a9,a10,a11,a12,a13,a14,a15,a16,a17,a18]:=by kernel_rfl
theorem Zux (M:List Nat) (h:M.length=19):ZaQ.foldl (fun A k=>A.set k (M.getD k 0)) (List.replicate 19 0)=M:=by
 match M,h with
 | [a0,a1,a2,a3,a4,a5,a6,a7,a8,a9,a10,a11,a12,a13,a14,a15,a16,a17,a18],_=>exact Ztg a0 a1 a2 a3 a4 a5 a6 a7 a8 a9 a10 a11 a12 a13 a14 a15 a16 a17 a18
theorem ZpN (M:List Nat) (hk:Zbq M≤32768) (h15:∀n∈M,n≤15) (rest:List Bool) (n:Nat):∀(S all:List Nat) (f:Nat),(∀s∈S,s<M.length∧0<M.getD s 0∧s<16)→all.length+S.length=n→S.length<f→
  Zt4 M n f (Zi3 M S++rest) all=some (rest,all++S)
 | [],all,f,h,hn,hf=>by
  obtain ⟨f',rfl⟩:∃f',f=f'+1:=⟨f-1,by omega⟩
  rw [Zfo]
  unfold Ze4
  rw [if_neg (by simp at hn;omega)]
  simp [Zi3]
 | s::r,all,f,h,hn,hf=>by
  obtain ⟨f',rfl⟩:∃f',f=f'+1:=⟨f-1,by omega⟩
  obtain ⟨h1,h2,h3⟩:=h s (List.mem_cons_self ..)
  rw [List.length_cons] at hn hf
  have e:Zi3 M (s::r)=Zij M s++Zi3 M r:=by simp [Zi3]
  rw [Zfo]
  unfold Ze4
  rw [if_pos (by omega),e,List.append_assoc,Zga M hk h15 s h1 h2]
  dsimp only
  unfold Zwx
  rw [if_pos h3]
  simp only [Option.bind_some]
  rw [ZpN M hk h15 rest n r (all++[s]) f' (fun x hx=>h x (List.mem_cons_of_mem _ hx)) (by simp;omega) (by omega),List.append_assoc]
  rfl
theorem Zok {ns:List Nat} (h1:ns.length≤300) (h2:∀n∈ns,n≤15) (h3:Zbq ns=32768∨ZeE ns=1∧Zbq ns=16384):Zc0 ns=true:=by
 unfold Zc0
 simp only [Bool.and_eq_true,Bool.or_eq_true,decide_eq_true_eq,List.all_eq_true]
 exact ⟨h1,h2,h3⟩
theorem ZuO (ts:List Tk) (hO:Zho ts) (rest:List Bool) :
  Zgd (some (ZbK ((Zd4 ts).length-257) 5++(ZbK ((Zem ts).length-1) 5++(ZbK 15 4++(Zei (Zfv ts) ZaQ++(Zi3 (Zfv ts) (ZfW ts)++rest))))))=some (Zd4 ts,Zem ts,rest):=by
 have l1:=hO.l1
 have l2:=hO.l2
 have d1:=hO.d1
 have d2:=hO.d2
 have hSl:(ZfW ts).length=(Zd4 ts).length+(Zem ts).length:=by unfold ZfW;rw [List.length_append]
 have h16:∀s∈ZfW ts,s<16:=fun s hs=>by
  unfold ZfW at hs
  rcases List.mem_append.1 hs with h | h
  ·have:=hO.l15 s h;omega
  ·have:=hO.d15 s h;omega
 have hML:Zc0 (Zfv ts)=true:=Zok (by rw [hO.ml];omega) hO.m15 hO.m.ok
 unfold Zgd
 dsimp only
 rw [ZeA]
 dsimp only
 rw [ZeA]
 dsimp only
 rw [ZeA]
 dsimp only
 rw [ZdO 5 _ (by omega),ZdO 5 _ (by omega),ZdO 4 15 (by omega)]
 unfold Zki
 rw [show ZaQ.take (15+4)=ZaQ from rfl,Znf (Zfv ts) hO.m7,Zux _ hO.ml]
 dsimp only
 have hneg:¬(Zc0 (Zfv ts)=false∨286<(Zd4 ts).length-257+257∨30<(Zem ts).length-1+1):=by
  rintro (q | q | q)
  ·rw [hML] at q;cases q
  ·omega
  ·omega
 rw [if_neg hneg,show (Zd4 ts).length-257+257=(Zd4 ts).length by omega,show (Zem ts).length-1+1=(Zem ts).length by omega,
  ZpN (Zfv ts) hO.km hO.m15 rest ((Zd4 ts).length+(Zem ts).length) (ZfW ts) [] _ (fun s hs=>⟨by rw [hO.ml];exact (hO.mpos s hs).2,(hO.mpos s hs).1,h16 s hs⟩) (by rw [hSl];simp) (by omega)]
 dsimp only
 rw [List.nil_append,if_pos hSl]
 unfold ZfW
 rw [List.take_left' rfl,List.drop_left' rfl]
theorem Zho.pos {ts:List Tk} (h:Zho ts):∀t∈ts,t.Pos (Zd4 ts) (Zem ts):=fun t ht=>by
 cases t with
 | lit c=>have:=h.lpos c (List.mem_flatMap.2 ⟨_,ht,by simp [Zrj]⟩);exact ⟨this.2,this.1⟩
 | far l k=>
  have h1:=h.lpos (257+ZbS ZaA l) (List.mem_flatMap.2 ⟨_,ht,by simp [Zrj]⟩)
  have h2:=h.dpos (ZbS ZaP k) (List.mem_flatMap.2 ⟨_,ht,by simp [ZtV]⟩)
  exact ⟨⟨h1.2,h1.1⟩,h2.2,h2.1⟩
theorem Zwy (s:Str) (hs:s.length≤300):Ztu (Ztf s)=some (ints s,(Ztf s).length):=by
 have hlen:(ZhH s).length≤300:=Nat.le_trans (Zfg s) hs
 have hO:=Zut (ZhH s) (ZfS s) hlen
 unfold Ztf
 refine ZuP (ownB (ZhH s)) (ZbK ((Zd4 (ZhH s)).length-257) 5++(ZbK ((Zem (ZhH s)).length-1) 5++(ZbK 15 4++(Zei (Zfv (ZhH s)) ZaQ++(Zi3 (Zfv (ZhH s)) (ZfW (ZhH s))++Zfh (Zd4 (ZhH s)) (Zem (ZhH s)) (ZhH s)))))) 2 (by omega) _ (by rw [Zdz];exact hs) ?_ fun rest=>?_
 ·unfold ownB Zm5
  simp only [List.append_assoc,List.nil_append,show ZbK 1 1=[true] from rfl,List.cons_append]
 ·simp only [List.append_assoc]
  unfold ZdU
  rw [if_neg (by omega),if_neg (by omega),if_pos rfl,ZuO _ hO]
  dsimp only
  exact Znd _ _ (Zok (by have:=hO.l2;omega) hO.l15 hO.lk) (Zok (by have:=hO.d2;omega) hO.d15 hO.dk) ⟨by have:=hO.l1;omega,hO.epos⟩ s hs hO.pos rest
theorem ZsT (s:Str):(ZgL s).length≤s.length+5:=by
 have:=Zn4 s
 unfold ZgL
 dsimp only
 split<;>split<;>omega
theorem ZuQ (s:Str) (hs:s.length≤300):Ztu (ZgL s)=some (ints s,(ZgL s).length):=by
 have h:ZgL s=Ztf s∨ZgL s=ZgS s∨ZgL s=ZgO s:=by
  unfold ZgL
  dsimp only
  by_cases c1:(ZgS s).length<(ZgO s).length
  ·rw [if_pos c1];split
   ·exact .inl rfl
   ·exact .inr (.inl rfl)
  ·rw [if_neg c1];split
   ·exact .inl rfl
   ·exact .inr (.inr rfl)
 rcases h with h | h | h<;>rw [h]
 ·exact Zwy s hs
 ·exact Ztt s hs
 ·exact Zts s hs
theorem Zrw (s:Str) (hs:s.length≤300):ZgR (ZgL s)=(s,((ZgL s).length:Int),true):=by
 have:=ZsT s
 unfold ZgR
 rw [if_neg (by omega),ZuQ s hs]
 unfold ZwN ints
 dsimp only
 rw [Zg1]
end Ev
end
section
namespace Ev
open Go
theorem ZqC (b:UInt8):∀s:Str,((Zbz b s).map fun p=>p.length+1).sum=s.length+1
 | []=>rfl
 | c::s=>by
  have ih:=ZqC b s
  simp only [Zbz]
  split
  ·rw [List.map_cons,List.sum_cons,ih,List.length_cons,List.length_nil];omega
  ·cases hc:Zbz b s with
   | nil=>exact absurd hc (ZeC b s)
   | cons p r=>
    rw [hc] at ih
    simp only [List.map_cons,List.sum_cons,List.length_cons] at ih ⊢
    omega
theorem Zf6 {α:Type} (f:α→Nat) (k:Nat):∀l:List α,(∀x∈l,f x≤k)→(l.map f).sum≤k*l.length
 | [],_=>by simp
 | x::l,h=>by
  have h1:=h x (List.mem_cons_self ..)
  have h2:=Zf6 f k l (fun y hy=>h y (List.mem_cons_of_mem _ hy))
  rw [List.map_cons,List.sum_cons,List.length_cons,Nat.mul_add];omega
theorem ZcB {s:Str} (h:Zdu s=true):1≤s.length∧s.length≤43:=by
 unfold Zdu at h
 rw [Bool.and_eq_true,List.all_eq_true,decide_eq_true_eq] at h
 obtain ⟨h1,h2⟩:=h
 have hs:=ZqC 47 s
 have hp:∀p∈Zbz 47 s,1≤p.length∧p.length≤10:=fun p hp=>by
  have:=h1 p hp
  unfold part at this
  simp only [Bool.and_eq_true,decide_eq_true_eq] at this
  exact this.2.1
 have hm:=Zf6 (fun p:Str=>p.length+1) 11 (Zbz 47 s) (fun p h=>by have:=hp p h;omega)
 refine ⟨?_,by omega⟩
 cases hc:Zbz 47 s with
 | nil=>exact absurd hc (ZeC 47 s)
 | cons p r=>
  have:=(hp p (by rw [hc];exact List.mem_cons_self ..)).1
  rw [hc,List.map_cons,List.sum_cons] at hs
  omega
abbrev Fil.txt (e:Fil):Str:=e.2.2.2.2.2.2.2
def Zeh (text:Str):Nat×Str:=if (ZgL text).length<text.length then (8,ZgL text) else (0,text)
def stF (e:Fil):Nat:=stN e.2.1.toNat e.2.2.1.toNat e.2.2.2.1.toNat e.2.2.2.2.1.toNat e.2.2.2.2.2.1.toNat e.2.2.2.2.2.2.1.toNat
def ZuT (e:Fil):Str:=Zqi (Zeh e.txt).1 (stF e) (ZoX e.txt) (Zeh e.txt).2.length e.txt.length e.1.length
def Zdh (e:Fil):Str:=ZuT e++(e.1++(Zeh e.txt).2)
theorem Zc8 (a b c d e f:Nat):(Zqi a b c d e f).length=30:=by
 unfold Zqi;simp only [List.length_append,ZaK]
theorem Zir (t:Str):(Zeh t).2.length≤t.length∧(Zeh t).1≤8:=by
 unfold Zeh
 split
 ·exact ⟨by dsimp only;omega,by dsimp only;omega⟩
 ·exact ⟨Nat.le_refl _,by dsimp only;omega⟩
theorem unpM_8 (body t:Str) (h:ZgR body=(t,(body.length:Int),true)):ZvT 8 body=some t:=by
 unfold ZvT
 rw [h,if_neg (by omega),if_pos rfl]
 exact if_pos ⟨rfl,rfl⟩
theorem unpM_0 (body:Str):ZvT 0 body=some body:=by
 unfold ZvT;rw [if_pos rfl]
theorem Zwj (t:Str) (ht:t.length≤300):ZvT (Zeh t).1 (Zeh t).2=some t:=by
 have h8:=unpM_8 (ZgL t) t (Zrw t ht)
 have h0:=unpM_0 t
 unfold Zeh
 generalize ZgL t=b at h8 ⊢
 split
 ·exact h8
 ·exact h0
theorem ZgD (e:Fil):(Zdh e).length=30+e.1.length+(Zeh e.txt).2.length:=by
 unfold Zdh ZuT;rw [List.length_append,List.length_append,Zc8];omega
theorem Zby {e:Fil} (h:ZbY e=true):Zdu e.1=true∧stM e.2.1 e.2.2.1 e.2.2.2.1 e.2.2.2.2.1 e.2.2.2.2.2.1 e.2.2.2.2.2.2.1=true∧e.txt.length≤300:=by
 unfold ZbY at h
 simp only [Bool.and_eq_true,decide_eq_true_eq] at h
 exact ⟨h.1,h.2.1,h.2.2⟩
set_option maxRecDepth 100000 in
theorem ZpQ (e:Fil) (h:ZbY e=true) (x:Str):Zf2 (Zdh e++x)=some (e,(Zdh e).length):=by
 obtain ⟨h1,h2,h3⟩:=Zby h
 have hL:=ZgD e
 have hnl:=ZcB h1
 have hp:=Zir e.txt
 have hu:=Zwj e.txt h3
 have hc:=Zie e.txt
 obtain ⟨y,mo,d,hh,mi,sec,e1,e2,e3,e4,e5,e6,_⟩:=Zjf h2
 have hst:stF e=stN y mo d hh mi sec:=by
  unfold stF;rw [e1,e2,e3,e4,e5,e6];simp only [Int.toNat_natCast]
 rw [e1,e2,e3,e4,e5,e6] at h2
 obtain ⟨g1,g2⟩:=Zn5 h2
 rw [←hst] at g1 g2
 obtain ⟨s,hs⟩:∃s,s=Zdh e++x:=⟨_,rfl⟩
 rw [←hs]
 have hsl:s.length=(Zdh e).length+x.length:=by rw [hs,List.length_append]
 have happ:s=ZuT e++(e.1++((Zeh e.txt).2++x)):=by rw [hs];unfold Zdh;simp only [List.append_assoc]
 have hl30:(ZuT e).length=30:=Zc8 _ _ _ _ _ _
 have ht30:ZuT e=s.take 30:=by rw [happ,List.take_left' hl30]
 have hd30:s.drop 30=e.1++((Zeh e.txt).2++x):=by rw [happ,List.drop_left' hl30]
 have hname:(s.drop 30).take e.1.length=e.1:=by rw [hd30,List.take_left' rfl]
 have hbody:(s.drop (30+e.1.length)).take (Zeh e.txt).2.length=(Zeh e.txt).2:=by
  rw [←List.drop_drop,hd30,List.drop_left' rfl,List.take_left' rfl]
 obtain ⟨q1,q2,q3,q4,q5,q6,q7,q8,q9,q10⟩:=(Zoz s (by omega) (Zeh e.txt).1 (stF e) (ZoX e.txt) (Zeh e.txt).2.length e.txt.length e.1.length (by omega) g2 hc (by omega) (by omega) (by omega)).1 ht30
 unfold Zf2
 rw [if_neg (by omega),q9,q7,if_neg (by omega),q4,hbody,hu]
 dsimp only
 have hC:Zri s e.txt:=by
  unfold Zri
  rw [q9,hname,q5,g1]
  exact ⟨h1,h2,h3,q1,q2,q3,q10,q6,q8⟩
 rw [if_pos hC,hname,q5,g1]
 dsimp only
 rw [←e1,←e2,←e3,←e4,←e5,←e6,←hL]
theorem Ztx {s:Str} {e:Fil} {n:Nat} (h:Zf2 s=some (e,n)):ZbY e=true:=by
 unfold Zf2 at h
 split at h
 ·cases h
 ·split at h
  ·cases h
  ·split at h
   ·cases h
   ·split at h
    ·rename_i hc
     obtain ⟨rfl,rfl⟩:=Prod.mk.inj (Option.some.inj h)
     unfold ZbY
     dsimp only
     rw [hc.1,hc.2.1,decide_eq_true hc.2.2.1];rfl
    ·cases h
end Ev
end
section
namespace Ev
open Go
def ZbD (es:List Fil):Str:=(es.map Zdh).flatten
def Zen (es:List Fil):Str:=ZbD es++Zcx (es.map Zdh)
theorem Zfd (e:Fil) (r:List Fil):ZbD (e::r)=Zdh e++ZbD r:=by simp [ZbD]
theorem ZfI (es:List Fil):(ZbD es).length=ZeS (es.map Zdh):=by
 induction es with
 | nil=>rfl
 | cons e r ih=>rw [Zfd,List.length_append,ih];simp [ZeS]
theorem Zh0 (rest:Str) (hr:Zf2 rest=none):∀(es:List Fil) (K:Nat),es.length≤K→(∀e∈es,ZbY e=true)→Zbo K (ZbD es++rest)=(es,es.map Zdh,rest)
 | [],K,hK,h=>by
  rw [show ZbD []++rest=rest from rfl]
  cases K with
  | zero=>rfl
  | succ K=>rw [Zbo,hr];rfl
 | e::r,K,hK,h=>by
  rw [List.length_cons] at hK
  obtain ⟨K,rfl⟩:∃K',K=K'+1:=⟨K-1,by omega⟩
  rw [Zfd,List.append_assoc,Zbo,ZpQ e (h e (List.mem_cons_self ..))]
  dsimp only
  rw [List.drop_left' rfl,List.take_left' rfl,Zh0 rest hr r K (by omega) (fun x hx=>h x (List.mem_cons_of_mem _ hx))]
  rfl
theorem ZrG (ls:List Str):Zf2 (Zcx ls)=none:=Zme _ _ _ _ _
theorem ZcH {es:List Fil} (h:ZeV es=true):(∀e∈es,ZbY e=true)∧es.length≤6:=by
 unfold ZeV at h
 simp only [Bool.and_eq_true,List.all_eq_true,decide_eq_true_eq] at h
 exact ⟨h.1,h.2.1⟩
theorem Zo2 (es:List Fil) (h:ZeV es=true):Zdl (Zen es)=some es:=by
 obtain ⟨h1,h2⟩:=ZcH h
 unfold Zdl Zen
 rw [Zh0 _ (ZrG _) es 6 h2 h1]
 dsimp only
 rw [if_pos ⟨h,rfl⟩]
theorem Zs2 {s:Str} {es:List Fil} (h:Zdl s=some es):ZeV es=true:=by
 unfold Zdl at h
 split at h
 ·rename_i hc
  obtain rfl:=Option.some.inj h
  exact hc.1
 ·cases h
theorem Zhb {e:Fil} (h:ZbY e=true):(Zdh e).length≤373∧30≤(Zdh e).length:=by
 obtain ⟨h1,h2,h3⟩:=Zby h
 have:=ZcB h1
 have:=Zir e.txt
 rw [ZgD];omega
theorem Zlt {e:Fil} (h:ZbY e=true):leN (Zdh e) 26 2=e.1.length:=by
 obtain ⟨h1,h2,h3⟩:=Zby h
 have hnl:=ZcB h1
 have hp:=Zir e.txt
 have hc:=Zie e.txt
 obtain ⟨y,mo,d,hh,mi,sec,e1,e2,e3,e4,e5,e6,_⟩:=Zjf h2
 have hst:stF e=stN y mo d hh mi sec:=by
  unfold stF;rw [e1,e2,e3,e4,e5,e6];simp only [Int.toNat_natCast]
 rw [e1,e2,e3,e4,e5,e6] at h2
 obtain ⟨g1,g2⟩:=Zn5 h2
 rw [←hst] at g2
 have hL:=ZgD e
 have hl30:(ZuT e).length=30:=Zc8 _ _ _ _ _ _
 have ht30:ZuT e=(Zdh e).take 30:=by unfold Zdh;rw [List.take_left' hl30]
 exact ((Zoz (Zdh e) (by omega) (Zeh e.txt).1 (stF e) (ZoX e.txt) (Zeh e.txt).2.length e.txt.length e.1.length (by omega) g2 hc (by omega) (by omega) (by omega)).1 ht30).2.2.2.2.2.2.2.2.1
theorem Znk {e:Fil} (h:ZbY e=true):ZoR (Zdh e):=by
 have h1:=Zhb h
 refine ⟨?_,by omega⟩
 rw [Zlt h,ZgD];omega
theorem ZkB (es:List Fil) (h:∀e∈es,ZbY e=true):ZeS (es.map Zdh)≤373*es.length:=by
 unfold ZeS
 rw [List.map_map]
 exact Zf6 _ 373 es fun e he=>(Zhb (h e he)).1
theorem ZnA (es:List Fil) (h:∀e∈es,ZbY e=true):∀a,(Zch (es.map Zdh) a).length=(es.map fun e=>46+e.1.length).sum:=by
 induction es with
 | nil=>intro a;rfl
 | cons e r ih=>
  intro a
  have he:=h e (List.mem_cons_self ..)
  simp only [List.map_cons,Zch,List.length_append,List.sum_cons]
  rw [Zhl _ _ (Znk he),Zlt he,ih (fun x hx=>h x (List.mem_cons_of_mem _ hx))]
theorem ZkS (es:List Fil) (h:∀e∈es,ZbY e=true):(Zen es).length=ZeS (es.map Zdh)+(es.map fun e=>46+e.1.length).sum+22:=by
 unfold Zen Zcx
 rw [List.length_append,List.length_append,ZfI,Zfs,ZnA es h];omega
theorem ZhW (es:List Fil) (h:ZeV es=true):(Zen es).length≤3000:=by
 obtain ⟨h1,h2⟩:=ZcH h
 have a1:=ZkB es h1
 have a2:=Zf6 (fun e:Fil=>46+e.1.length) 89 es fun e he=>by
  have:=ZcB (Zby (h1 e he)).1
  omega
 rw [ZkS es h1];omega
end Ev
end
section
namespace Ev
open Go
theorem ZsG (e:Fil) (hn:e.1.length≤1048576):ZbZ e.1 e.2.1 e.2.2.1 e.2.2.2.1 e.2.2.2.2.1 e.2.2.2.2.2.1 e.2.2.2.2.2.2.1 e.2.2.2.2.2.2.2=some (ZbY e):=ZjN _ hn _ _ _ _ _ _ _
theorem Zj4 (e:Fil) (hn:e.1.length≤1048576):ZaJ e.1 e.2.1 e.2.2.1 e.2.2.2.1 e.2.2.2.2.1 e.2.2.2.2.2.1 e.2.2.2.2.2.2.1 e.2.2.2.2.2.2.2=some (ZbY e):=ZfT _ hn _ _ _ _ _ _ _
theorem Zqu {e:Fil} (h:ZbY e=true):∃(nm:Str) (y mo d hh mi sec:Nat) (t:Str),e=(nm,(y:Int),(mo:Int),(d:Int),(hh:Int),(mi:Int),(sec:Int),t)∧Zdu nm=true∧stM y mo d hh mi sec=true∧t.length≤300∧nm.length≤43∧1≤nm.length∧stF e=stN y mo d hh mi sec∧stN y mo d hh mi sec<4294967296:=by
 obtain ⟨h1,h2,h3⟩:=Zby h
 have hnl:=ZcB h1
 obtain ⟨nm,y,mo,d,hh,mi,sec,t⟩:=e
 dsimp only at h1 h2 h3 hnl
 obtain ⟨y',mo',d',hh',mi',sec',rfl,rfl,rfl,rfl,rfl,rfl,_⟩:=Zjf h2
 exact ⟨nm,y',mo',d',hh',mi',sec',t,rfl,h1,h2,h3,hnl.2,hnl.1,by unfold stF;simp only [Int.toNat_natCast],(Zn5 h2).2⟩
theorem Zls (e:Fil) (hn:e.1.length≤1048576):Zbt e.1 e.2.1 e.2.2.1 e.2.2.2.1 e.2.2.2.2.1 e.2.2.2.2.2.1 e.2.2.2.2.2.2.1 e.2.2.2.2.2.2.2=some (if ZbY e then Zdh e else []):=by
 unfold Zbt
 rw [ZsG e hn]
 simp only [Zaa]
 cases hf:ZbY e with
 | false=>rfl
 | true=>
  obtain ⟨nm,y,mo,d,hh,mi,sec,t,rfl,h1,h2,h3,h4,_,h5,h6⟩:=Zqu hf
  have hb:=ZsT t
  dsimp only
  simp only [Bool.not_true,cond_false]
  rw [if_pos trivial,Zrv t h3]
  simp only [Zaa]
  unfold Zdh ZuT Zeh
  rw [h5]
  dsimp only [Fil.txt]
  by_cases hlt:(ZgL t).length<t.length
  ·rw [decide_eq_true (by omega),cond_true,if_pos hlt]
   have:=ZlM nm (by omega) h2 t (by omega) 8 (ZgL t).length (by omega) (by omega)
   rw [show ((8:Nat):Int)=8 from rfl] at this
   rw [this]
   simp only [Zaa]
   rw [Zad (by rw [Zc8];omega),Zad (by rw [List.length_append,Zc8];omega),List.append_assoc]
  ·rw [decide_eq_false (by omega),cond_false,if_neg hlt]
   have:=ZlM nm (by omega) h2 t (by omega) 0 t.length (by omega) (by omega)
   rw [show ((0:Nat):Int)=0 from rfl] at this
   rw [this]
   simp only [Zaa]
   rw [Zad (by rw [Zc8];omega),Zad (by rw [List.length_append,Zc8];omega),List.append_assoc]
theorem Zhy (es:List Fil) (i:Nat) (h:i<es.length):es.getD i ([],0,0,0,0,0,0,[])=es[i]:=Zam h
theorem ZoZ (es:List Fil) (hn:es.length≤1000) (hx:∀e∈es,ZbY e=true):∀(j i:Nat) (out:List Str),i+j=es.length→out.length=i→
  Zbx.l0 (j+1) (es,(es.length:Int),(i:Int),out)=some (out++(es.drop i).map Zdh)
 | 0,i,out,h,ho=>by
  rw [Zbx.l0.succ];simp only [Zbx.l0.step]
  rw [ZaZ (by omega),List.drop_eq_nil_of_le (by omega)];simp
 | j+1,i,out,h,ho=>by
  have hi:i<es.length:=by omega
  have hf:=hx es[i] (List.getElem_mem hi)
  have hnl:=ZcB (Zby hf).1
  rw [Zbx.l0.succ];simp only [Zbx.l0.step]
  rw [ZaY hi,cond_true,Zab _ ZaB,Int.toNat_natCast,Zhy es i hi,Zls _ (by omega),if_pos hf]
  simp only [Zaa]
  rw [Zad (by simp;omega),Zaf (by omega) (by omega),show (i:Int)+1=((i+1:Nat):Int) by omega,
   ZoZ es hn hx j (i+1) _ (by omega) (by simp [ho]),List.drop_eq_getElem_cons hi,List.map_cons,List.append_assoc]
  rfl
theorem Zu8 (xs:List Str):Zrq xs []=xs.flatten:=by
 unfold Zrq
 induction xs with
 | nil=>rfl
 | cons x r ih=>
  cases r with
  | nil=>simp [List.intercalate]
  | cons y r=>simp only [List.intercalate,List.intersperse,List.flatten_cons] at ih ⊢;rw [ih];rfl
theorem Zo0 (es:List Fil) (hn:es.length≤1048576) (hx:∀e∈es,e.1.length≤1048576):Zbx es=some (if ZeV es then Zen es else []):=by
 unfold Zbx
 rw [Zkv es hn hx]
 simp only [Zaa]
 cases hz:ZeV es with
 | false=>rfl
 | true=>
  obtain ⟨h1,h2⟩:=ZcH hz
  have h:=ZoZ es (by omega) h1 es.length 0 [] (by omega) rfl
  rw [show ((0:Nat):Int)=0 from rfl,List.drop_zero,List.nil_append] at h
  have hs:=ZkB es h1
  have hle:=ZhW es hz
  have hfl:=ZfI es
  have hcl:ZbG (es.map Zdh)=some (Zcx (es.map Zdh)):=ZnQ _ (by rw [List.length_map];omega) (fun l hl=>by
   obtain ⟨e,he,rfl⟩:=List.mem_map.1 hl
   exact Znk (h1 e he))
  simp only [Bool.not_true,cond_false]
  rw [if_pos trivial,ZaG,h]
  simp only [Zaa]
  unfold joinS
  rw [Zu8,show (es.map Zdh).flatten=ZbD es from rfl,Zab _ (by rw [Bool.and_eq_true];exact ⟨Zfr (by rw [List.length_map];omega),Zfr (by omega)⟩)]
  simp only [Zaa]
  rw [hcl]
  simp only [Zaa]
  rw [Zad (by unfold Zen at hle;rw [List.length_append] at hle;omega)]
  rfl
theorem Zsm (t:Str) (ht:t.length≤300):ZgX t=some (((Zeh t).1:Int),(Zeh t).2):=by
 unfold ZgX Zeh
 rw [Zk4 t ht]
 simp only [Zaa]
 by_cases hlt:(ZgL t).length<t.length
 ·rw [decide_eq_true (by omega),if_pos hlt];rfl
 ·rw [decide_eq_false (by omega),if_neg hlt];rfl
def Zxg (e:Fil):Str:=leB 20 2++leB 0 2++leB (Zeh e.txt).1 2++leB (stF e) 4++leB (ZoX e.txt) 4++leB (Zeh e.txt).2.length 4++leB e.txt.length 4++leB e.1.length 2++leB 0 2
theorem Zsb (e:Fil):ZuT e=leB 67324752 4++Zxg e:=by
 unfold ZuT Zqi Zxg;simp only [List.append_assoc]
theorem Zic (e:Fil):(Zxg e).length=26:=by
 unfold Zxg;simp only [List.length_append,ZaK]
set_option maxRecDepth 100000 in
theorem ZlB (e:Fil) (hf:ZbY e=true):ZcI e.1 e.2.1 e.2.2.1 e.2.2.2.1 e.2.2.2.2.1 e.2.2.2.2.2.1 e.2.2.2.2.2.2.1 e.2.2.2.2.2.2.2=some (Zxg e):=by
 have L:∀n k,(leB n k).length=k:=ZaK
 obtain ⟨nm,y,mo,d,hh,mi,sec,t,rfl,h1,h2,h3,h4,_,h5,h6⟩:=Zqu hf
 have hp:=Zir t
 have hc:=Zie t
 have n1:=Zbb 20 2 (by omega) (by omega)
 have n2:=Zbb 0 2 (by omega) (by omega)
 have n3:=Zbb (Zeh t).1 2 (by omega) (by omega)
 have n4:=Zbb (stN y mo d hh mi sec) 4 (by omega) (by omega)
 have n5:=Zbb (ZoX t) 4 (by omega) (by omega)
 have n6:=Zbb (Zeh t).2.length 4 (by omega) (by omega)
 have n7:=Zbb t.length 4 (by omega) (by omega)
 have n8:=Zbb nm.length 2 (by omega) (by omega)
 rw [show ((20:Nat):Int)=20 from rfl,show ((2:Nat):Int)=2 from rfl] at n1
 rw [show ((0:Nat):Int)=0 from rfl,show ((2:Nat):Int)=2 from rfl] at n2
 rw [show ((2:Nat):Int)=2 from rfl] at n3 n8
 rw [show ((4:Nat):Int)=4 from rfl] at n4 n5 n6 n7
 unfold ZcI
 dsimp only
 rw [Zsm t h3]
 simp only [Zaa]
 rw [n1,n2]
 simp only [Zaa]
 rw [Zad (by simp only [L];omega),n3]
 simp only [Zaa]
 rw [Zad (by simp only [List.length_append,L];omega),ZwC h2]
 simp only [Zaa]
 rw [n4]
 simp only [Zaa]
 rw [Zad (by simp only [List.length_append,L];omega),ZmW t (by omega)]
 simp only [Zaa]
 rw [n5]
 simp only [Zaa]
 rw [Zad (by simp only [List.length_append,L];omega),n6]
 simp only [Zaa]
 rw [Zad (by simp only [List.length_append,L];omega),n7]
 simp only [Zaa]
 rw [Zad (by simp only [List.length_append,L];omega),n8]
 simp only [Zaa]
 rw [Zad (by simp only [List.length_append,L];omega),Zad (by simp only [List.length_append,L];omega)]
 unfold Zxg
 rw [h5]
theorem Znn (e:Fil) (hf:ZbY e=true):Zdo e.1 e.2.1 e.2.2.1 e.2.2.2.1 e.2.2.2.2.1 e.2.2.2.2.2.1 e.2.2.2.2.2.2.1 e.2.2.2.2.2.2.2=some (Zdh e):=by
 have hfl:=Zic e
 have hff:=ZlB e hf
 obtain ⟨g1,g2,g3⟩:=Zby hf
 have hnl:=ZcB g1
 have hp:(Zeh e.2.2.2.2.2.2.2).2.length≤e.2.2.2.2.2.2.2.length∧(Zeh e.2.2.2.2.2.2.2).1≤8:=Zir e.txt
 have g3':e.2.2.2.2.2.2.2.length≤300:=g3
 have n1:=Zbb 67324752 4 (by omega) (by omega)
 rw [show ((67324752:Nat):Int)=67324752 from rfl,show ((4:Nat):Int)=4 from rfl] at n1
 unfold Zdo
 rw [Zsm e.2.2.2.2.2.2.2 g3]
 simp only [Zaa]
 rw [n1,hff]
 simp only [Zaa]
 rw [Zad (by rw [ZaK];omega),Zad (by rw [List.length_append,ZaK];omega),Zad (by rw [List.length_append,List.length_append,ZaK];omega)]
 unfold Zdh
 rw [Zsb]
 simp only [List.append_assoc]
theorem ZsQ (e:Fil) (hf:ZbY e=true) (a:Nat):ZhF (Zdh e) a=leB 33639248 4++leB 20 2++Zxg e++leB 0 10++leB a 4++e.1:=by
 have hl30:(ZuT e).length=30:=Zc8 _ _ _ _ _ _
 have h1:((Zdh e).take 30).drop 4=Zxg e:=by
  unfold Zdh
  rw [List.take_left' hl30,Zsb,List.drop_left' (ZaK _ _)]
 have h2:((Zdh e).take (30+e.1.length)).drop 30=e.1:=by
  unfold Zdh
  rw [←List.append_assoc,List.take_left' (by rw [List.length_append,hl30]),List.drop_left' hl30]
 unfold ZhF
 rw [Zlt hf,h1,h2]
theorem ZpX (e:Fil) (hf:ZbY e=true) (a:Nat) (ha:a≤100000000):ZcM e.1 e.2.1 e.2.2.1 e.2.2.2.1 e.2.2.2.2.1 e.2.2.2.2.2.1 e.2.2.2.2.2.2.1 e.2.2.2.2.2.2.2 (a:Int)=some (ZhF (Zdh e) a):=by
 have L:∀n k,(leB n k).length=k:=ZaK
 have hfl:=Zic e
 have hff:=ZlB e hf
 obtain ⟨g1,g2,g3⟩:=Zby hf
 have hnl:=ZcB g1
 have n1:=Zbb 33639248 4 (by omega) (by omega)
 have n2:=Zbb 20 2 (by omega) (by omega)
 have n3:=Zbb 0 2 (by omega) (by omega)
 have n4:=Zbb 0 4 (by omega) (by omega)
 have n5:=Zbb a 4 (by omega) (by omega)
 rw [show ((33639248:Nat):Int)=33639248 from rfl,show ((4:Nat):Int)=4 from rfl] at n1
 rw [show ((20:Nat):Int)=20 from rfl,show ((2:Nat):Int)=2 from rfl] at n2
 rw [show ((0:Nat):Int)=0 from rfl,show ((2:Nat):Int)=2 from rfl] at n3
 rw [show ((0:Nat):Int)=0 from rfl,show ((4:Nat):Int)=4 from rfl] at n4
 rw [show ((4:Nat):Int)=4 from rfl] at n5
 unfold ZcM
 rw [n1,n2,hff,n3,n4,n5]
 simp only [Zaa]
 rw [Zad (by simp only [L];omega),Zad (by simp only [List.length_append,L];omega),Zad (by simp only [List.length_append,L];omega),Zad (by simp only [List.length_append,L];omega),Zad (by simp only [List.length_append,L];omega),
  Zad (by simp only [List.length_append,L];omega),Zad (by simp only [List.length_append,L];omega),Zad (by simp only [List.length_append,L];omega),ZsQ e hf a]
 have z:leB 0 10=leB 0 2++(leB 0 2++(leB 0 2++leB 0 4)):=by decide
 rw [z]
 simp only [List.append_assoc]
theorem Zw0 (e:Fil) (hf:ZbY e=true) (a:Nat):(ZhF (Zdh e) a).length≤89:=by
 have hnl:=ZcB (Zby hf).1
 rw [ZsQ e hf]
 simp only [List.length_append,ZaK,Zic];omega
theorem Zsh (es:List Fil) (hn:es.length≤1000) (hx:∀e∈es,ZbY e=true):∀(j i:Nat) (out heads:Str),i+j=es.length→out.length≤373*i→heads.length≤89*i→
  ZdV.l0 (j+1) (es,out,heads,(i:Int))=some (es,out++ZbD (es.drop i),heads++Zch ((es.drop i).map Zdh) out.length)
 | 0,i,out,heads,h,ho,hh=>by
  rw [ZdV.l0.succ];simp only [ZdV.l0.step]
  rw [ZaZ (by omega),List.drop_eq_nil_of_le (by omega)];simp [ZbD,Zch]
 | j+1,i,out,heads,h,ho,hh=>by
  have hi:i<es.length:=by omega
  have hf:=hx es[i] (List.getElem_mem hi)
  have hc:=Zw0 es[i] hf out.length
  have hl:=Zhb hf
  rw [ZdV.l0.succ];simp only [ZdV.l0.step]
  rw [ZaY hi,cond_true,Zab _ ZaB,Int.toNat_natCast,Zhy es i hi,ZpX _ hf _ (by omega)]
  simp only [Zaa]
  rw [Zad (by omega),Zab _ ZaB,Znn _ hf]
  simp only [Zaa]
  rw [Zad (by omega),Zaf (by omega) (by omega),show (i:Int)+1=((i+1:Nat):Int) by omega,
   Zsh es hn hx j (i+1) _ _ (by omega) (by rw [List.length_append];omega) (by rw [List.length_append];omega),List.drop_eq_getElem_cons hi,List.map_cons,Zfd]
  simp only [Zch,List.append_assoc,List.length_append]
theorem Zsi (es:List Fil) (hn:es.length≤1000) (hx:∀e∈es,ZbY e=true):ZdV es=some (Zen es):=by
 have h:=Zsh es hn hx es.length 0 [] [] (by omega) (by simp) (by simp)
 rw [show ((0:Nat):Int)=0 from rfl,List.drop_zero,List.nil_append,List.nil_append,List.length_nil] at h
 have h1:=ZkB es hx
 have h2:=ZfI es
 have h3:=ZnA es hx 0
 have h4:=Zf6 (fun e:Fil=>46+e.1.length) 89 es fun e he=>by
  have:=ZcB (Zby (hx e he)).1
  omega
 unfold ZdV
 rw [ZaG,h]
 simp only [Zaa]
 rw [Zad (by omega),Zsk es.length _ _ (by omega) (by omega) (by omega)]
 simp only [Zaa]
 rw [Zad (by rw [List.length_append,Zfs];omega)]
 unfold Zen Zcx
 rw [List.length_map,h2,List.append_assoc]
theorem Zn6 (es:List Fil) (hn:es.length≤1048576) (hx:∀e∈es,e.1.length≤1048576):ZaI es=some (if ZeV es then Zen es else []):=by
 unfold ZaI
 rw [Zi5 es hn hx]
 simp only [Zaa]
 cases hz:ZeV es with
 | false=>rfl
 | true=>
  obtain ⟨h1,h2⟩:=ZcH hz
  simp only [Bool.not_true,cond_false]
  rw [Zsi es (by omega) h1];rfl
end Ev
end
section
namespace Ev
open Go
theorem ZnD (a b:List Str) (i:Nat) (h:i<a.length):(a++b).getD i []=a.getD i []:=by
 simp only [List.getD_eq_getElem?_getD,List.getElem?_append_left h]
theorem ZtH (a:List Str) (n:Str):(a++[n]).getD a.length []=n:=by
 simp [List.getD_eq_getElem?_getD]
theorem Zmo (ns:List Str) (n:Str):Zgq (ns++[n])=(Zgq ns&&ns.all fun b=>!hit n b):=by
 unfold Zgq
 rw [List.length_append,List.length_cons,List.length_nil,Nat.zero_add,List.range_succ,List.all_append,List.all_cons,List.all_nil,Bool.and_true]
 congr 1
 ·apply Bool.eq_iff_iff.2
  rw [List.all_eq_true,List.all_eq_true]
  constructor<;>intro h i hi
  ·have hlt:=List.mem_range.1 hi
   have:=h i hi
   rwa [List.take_append_of_le_length (by omega),ZnD _ _ _ hlt] at this
  ·have hlt:=List.mem_range.1 hi
   have:=h i hi
   rwa [List.take_append_of_le_length (by omega),ZnD _ _ _ hlt]
 ·rw [List.take_left' rfl,ZtH]
theorem Zv7 {α:Type} {P:List α→Prop} (h0:P []) (h1:∀l x,P l→P (l++[x])) (l:List α):P l:=by
 have:∀r:List α,P r.reverse:=fun r=>by
  induction r with
  | nil=>exact h0
  | cons x r ih=>rw [List.reverse_cons];exact h1 _ _ ih
 have h:=this l.reverse
 rwa [List.reverse_reverse] at h
theorem ZqP (ns:List Str):Zgq ns=true↔ns.Pairwise fun a b=>hit b a=false:=by
 refine Zv7 (P:=fun ns:List Str=>Zgq ns=true↔ns.Pairwise fun a b=>hit b a=false) (by simp [Zgq]) (fun ns n ih=>?_) ns
 rw [Zmo,Bool.and_eq_true,ih,List.all_eq_true,List.pairwise_append]
 constructor
 ·rintro ⟨h1,h2⟩
  refine ⟨h1,by simp,fun a ha b hb=>?_⟩
  have:b=n:=by simpa using hb
  subst this
  have:=h2 a ha
  rwa [Bool.not_eq_true'] at this
 ·rintro ⟨h1,_,h2⟩
  exact ⟨h1,fun a ha=>by rw [Bool.not_eq_true'];exact h2 a ha n (by simp)⟩
def Apart (ns:List Str):Prop:=ns.Pairwise fun a b=>hit b a=false
theorem Zkw (es:List Fil):ZeV es=true↔(∀e∈es,ZbY e=true)∧es.length≤6∧Apart (es.map Prod.fst):=by
 unfold ZeV
 simp only [Bool.and_eq_true,List.all_eq_true,decide_eq_true_eq,ZqP]
 rfl
theorem ZnV (ns:List Str):Zgq ns=true↔Apart ns:=ZqP ns
end Ev
end
section
namespace Ev
open Go
def ZjT (es:List Fil) (n:Str):Bool:=es.any fun e=>hit n e.1
theorem Zvc (a n:Str):hit n a=(a==n||(Zfu a n||Zfu n a)):=by
 unfold hit
 rw [Zip,Zip]
 congr 1
 rw [Bool.eq_iff_iff,beq_iff_eq,beq_iff_eq]
 exact eq_comm
theorem Znm (es:List Fil) (n:Str) (hn:es.length≤1048576):∀(j i:Nat),i+j=es.length→
  Zca.l0 (j+1) (es,n,(i:Int))=some (if ZjT (es.drop i) n then .inr true else .inl ())
 | 0,i,h=>by
  rw [Zca.l0.succ];simp only [Zca.l0.step]
  rw [ZaZ (by omega),List.drop_eq_nil_of_le (by omega)];rfl
 | j+1,i,h=>by
  have hi:i<es.length:=by omega
  rw [Zca.l0.succ];simp only [Zca.l0.step]
  rw [ZaY hi,cond_true,Zab _ ZaB,Zab _ ZaB,Zab _ ZaB,Int.toNat_natCast,Zhy es i hi,Zjy,Zjy,Zaf (by omega) (by omega),show (i:Int)+1=((i+1:Nat):Int) by omega,Znm es n hn j (i+1) (by omega)]
  simp only [Zaa]
  have hc:ZjT (es.drop i) n=(hit n es[i].1||ZjT (es.drop (i+1)) n):=by unfold ZjT;rw [List.drop_eq_getElem_cons hi,List.any_cons]
  rw [hc,Zvc]
  cases es[i].1==n<;>cases Zfu es[i].1 n<;>cases Zfu n es[i].1<;>cases ZjT (es.drop (i+1)) n<;>rfl
theorem Zty (es:List Fil) (n:Str) (hn:es.length≤1048576):Zca es n=some (ZjT es n):=by
 have h:=Znm es n hn es.length 0 (by omega)
 rw [show ((0:Nat):Int)=0 from rfl,List.drop_zero] at h
 unfold Zca
 rw [ZaG,h]
 cases ZjT es n<;>rfl
theorem ZvM (es:List Fil) (n:Str) (h:Zgq (es.map Prod.fst)=true):Zgq (es.map Prod.fst++[n])= !ZjT es n:=by
 rw [Zmo,h,Bool.true_and]
 unfold ZjT
 rw [List.all_map]
 induction es with
 | nil=>rfl
 | cons e r ih=>
  have hr:Zgq (r.map Prod.fst)=true:=by
   rw [ZnV] at h ⊢
   exact (List.pairwise_cons.1 h).2
  rw [List.all_cons,List.any_cons,ih hr,Bool.not_or];rfl
def addC (es:List Fil) (e:Fil):Int:=if ZbY e=false then 1 else if ZjT es e.1=true then 3 else if 6≤es.length then 4 else 0
theorem Zs1 {es:List Fil} (h:ZeV es=true):Zgq (es.map Prod.fst)=true:=by
 unfold ZeV at h
 simp only [Bool.and_eq_true] at h
 exact h.2.2
theorem Zi6 {es:List Fil} (h:ZeV es=true):∀e∈es,e.1.length≤43:=fun e he=>(ZcB (Zby ((ZcH h).1 e he)).1).2
theorem Zsg (es:List Fil) (hn:es.length≤1000) (e:Fil) (he:e.1.length≤1048576):Ziy e.1 e.2.1 e.2.2.1 e.2.2.2.1 e.2.2.2.2.1 e.2.2.2.2.2.1 e.2.2.2.2.2.2.1 e.2.2.2.2.2.2.2 es=some (addC es e,if addC es e=0 then es++[e] else es):=by
 unfold Ziy addC
 rw [Zj4 e he]
 simp only [Zaa]
 cases hf:ZbY e with
 | false=>rfl
 | true=>
  simp only [Bool.not_true,cond_false]
  rw [Zty es e.1 (by omega)]
  simp only [Zaa]
  cases ZjT es e.1 with
  | true=>rfl
  | false=>
   rw [cond_false]
   by_cases h6:6≤es.length
   ·rw [decide_eq_true (by omega),cond_true];simp [h6]
   ·rw [decide_eq_false (by omega),cond_false,Zad (by simp;omega),Zad (by simp;omega),List.nil_append]
    simp [h6]
theorem Zw6 {es:List Fil} (h:ZeV es=true) {e:Fil} (hc:addC es e=0):ZeV (es++[e])=true∧ZbY e=true∧ZjT es e.1=false∧es.length<6:=by
 unfold addC at hc
 cases hf:ZbY e with
 | false=>rw [hf] at hc;simp at hc
 | true=>
  rw [hf] at hc
  cases hcl:ZjT es e.1 with
  | true=>rw [hcl] at hc;simp at hc
  | false=>
   rw [hcl] at hc
   have h6:es.length<6:=by
    rcases Nat.lt_or_ge es.length 6 with q | q
    ·exact q
    ·simp [q] at hc
   refine ⟨?_,rfl,rfl,h6⟩
   obtain ⟨g1,g2,g3⟩:=(Zkw es).1 h
   rw [Zkw]
   refine ⟨fun x hx=>?_,by simp;omega,?_⟩
   ·rcases List.mem_append.1 hx with hx | hx
    ·exact g1 x hx
    ·have:x=e:=by simpa using hx
     subst this;exact hf
   ·rw [List.map_append,List.map_cons,List.map_nil]
    exact (ZnV _).1 (by rw [ZvM es e.1 (Zs1 h),hcl];rfl)
theorem Zr7 {es:List Fil} (h:ZeV es=true):∀e∈es,e.1.length≤1048576:=fun e he=>by have:=Zi6 h e he;omega
end Ev
end
section
namespace Ev
open Go
theorem Zuo (xs:List Int) {b:List Int} {p:Int} (h:Zi4 b p) (hp:p≤1000000000) (hx:0<xs.length) (hx2:xs.length≤1000000000):Ret (ZfV xs b p) (Zj0 b p 1 fun x=>x∈xs):=by
 unfold ZfV
 refine .bind (Zoh _ h hp (by omega)) ?_
 rintro ⟨r,b',p'⟩ ⟨rfl,rfl,h0,h1⟩
 dsimp only at h0 h1 ⊢
 have hlt:r<xs.length:=by omega
 ((try simp (disch:=omega) only [Zan,Zal,Zak,Zad,Zat,ZaO,Zaf,Zaz,Zax,Zae,Option.map_some,cond_true,cond_false,Int.sub_zero,Int.toNat_natCast]);(try simp only [Zbm,ZdD,ZdG,Zau,Zbv,if_true,if_false]))
 refine .pure ⟨rfl,by dsimp only;omega,by dsimp only;omega,?_⟩
 dsimp only
 rw [Zam (by omega)]
 exact List.getElem_mem _
theorem ZxS (y mo:Int):∃n,ZnN y mo=some n∧28≤n:=by
 unfold ZnN
 cases (mo==4)<;>cases (mo==6)<;>cases (mo==9)<;>cases (mo==11)<;>simp only [cond_true,cond_false,Zaa]<;>first
  | exact ⟨30,rfl,by omega⟩
  | (cases (mo==2)<;>simp only [cond_true,cond_false,Zaa]<;>first
    | exact ⟨31,rfl,by omega⟩
    | (cases (y.tmod 4==0)<;>simp only [cond_true,cond_false,Zaa]<;>first
      | exact ⟨28,rfl,by omega⟩
      | (cases (y.tmod 100 != 0)<;>simp only [cond_true,cond_false,Zaa]<;>first
        | exact ⟨29,rfl,by omega⟩
        | (cases (y.tmod 400==0)<;>first
          | exact ⟨29,rfl,by omega⟩
          | exact ⟨28,rfl,by omega⟩))))
theorem ZwW (y mo:Int):28≤ZmI y mo:=by
 obtain ⟨n,h,h2⟩:=ZxS y mo
 unfold ZmI;rw [h];exact h2
theorem Zug {y mo d h mi s:Int} (h1:1980≤y∧y≤2107) (h2:1≤mo∧mo≤12) (h3:1≤d∧d≤28) (h4:0≤h∧h≤23) (h5:0≤mi∧mi≤59) (h6:0≤s∧s≤58) (h7:s%2=0):stM y mo d h mi s=true:=by
 have:=ZwW y mo
 unfold stM
 rw [decide_eq_true h1,decide_eq_true h2,decide_eq_true (⟨h3.1,by omega⟩:1≤d∧d≤ZmI y mo),decide_eq_true h4,decide_eq_true h5,decide_eq_true h6,Zaz (by omega),h7]
 rfl
def Zxl (b:List Int) (p c:Int) (Q:Int→Int→Int→Int→Int→Int→Prop) (r:Int×Int×Int×Int×Int×Int×List Int×Int):Prop:=∃y mo d h mi s p',r=(y,mo,d,h,mi,s,b,p')∧p≤p'∧p'≤p+c∧Q y mo d h mi s
theorem Zgh {b:List Int} {p:Int} (h:Zi4 b p) (hp:p≤900000000):Ret (Zb4 b p) (Zxl b p 6 fun y mo d h mi s=>stM y mo d h mi s=true):=by
 unfold Zb4
 refine .bind (Zuo _ h (by omega) (by decide) (by decide)) ?_
 rintro ⟨y,b1,p1⟩ ⟨rfl,g1,g2,g3⟩
 dsimp only at g1 g2 g3 ⊢
 refine .bind (ZdH 12 (h.up g1) (by omega) (by omega) (by omega)) ?_
 rintro ⟨mo,b2,p2⟩ ⟨rfl,k1,k2,k3⟩
 dsimp only at k1 k2 k3 ⊢
 refine .bind (ZdH 28 ((h.up g1).up k1) (by omega) (by omega) (by omega)) ?_
 rintro ⟨d,b3,p3⟩ ⟨rfl,l1,l2,l3⟩
 dsimp only at l1 l2 l3 ⊢
 refine .bind (ZdH 24 (((h.up g1).up k1).up l1) (by omega) (by omega) (by omega)) ?_
 rintro ⟨hh,b4,p4⟩ ⟨rfl,m1,m2,m3⟩
 dsimp only at m1 m2 m3 ⊢
 refine .bind (ZdH 60 ((((h.up g1).up k1).up l1).up m1) (by omega) (by omega) (by omega)) ?_
 rintro ⟨mi,b5,p5⟩ ⟨rfl,n1,n2,n3⟩
 dsimp only at n1 n2 n3 ⊢
 refine .bind (ZdH 30 (((((h.up g1).up k1).up l1).up m1).up n1) (by omega) (by omega) (by omega)) ?_
 rintro ⟨s,b6,p6⟩ ⟨rfl,o1,o2,o3⟩
 dsimp only at o1 o2 o3 ⊢
 rw [Zaf (by omega) (by omega),Zaf (by omega) (by omega),Zaf (by omega) (by omega)]
 refine .pure ⟨y,_,_,hh,mi,_,p6,rfl,by omega,by omega,?_⟩
 have hy:1980≤y∧y≤2107:=by
  simp only [List.mem_cons,List.not_mem_nil,or_false] at g3
  rcases g3 with rfl | rfl | rfl | rfl<;>omega
 exact Zug hy (by omega) (by omega) (by omega) (by omega) (by omega) (by omega)
theorem Zor {b:List Int} {p:Int} (h:Zi4 b p) (hp:p≤800000000):Ret (ZbV b p) (Zxl b p 8 fun y mo d h mi s=>True):=by
 unfold ZbV
 refine .bind (Zgh h (by omega)) ?_
 rintro _ ⟨y,mo,d,hh,mi,s,p1,rfl,g1,g2,_⟩
 dsimp only
 refine .bind (ZdH 10 (h.up g1) (by omega) (by omega) (by omega)) ?_
 rintro ⟨x,b2,p2⟩ ⟨rfl,k1,k2,k3⟩
 dsimp only at k1 k2 k3 ⊢
 have h2:=(h.up g1).up k1
 refine .cond (fun _=>?_) fun _=>.cond (fun _=>?_) fun _=>.cond (fun _=>?_) fun _=>.cond (fun _=>?_) fun _=>.pure ⟨_,_,_,_,_,_,_,rfl,by omega,by omega,trivial⟩
 all_goals
  refine .bind (Zuo _ h2 (by omega) (by decide) (by decide)) ?_
  rintro ⟨z,b3,p3⟩ ⟨rfl,l1,l2,l3⟩
  dsimp only at l1 l2 l3 ⊢
  exact .pure ⟨_,_,_,_,_,_,_,rfl,by omega,by omega,trivial⟩
def entZ (e:Fil) (b:List Int) (p:Int):Str×Int×Int×Int×Int×Int×Int×Str×List Int×Int:=(e.1,e.2.1,e.2.2.1,e.2.2.2.1,e.2.2.2.2.1,e.2.2.2.2.2.1,e.2.2.2.2.2.2.1,e.2.2.2.2.2.2.2,b,p)
def ZvR (b:List Int) (p c:Int) (Q:Fil→Prop) (r:Str×Int×Int×Int×Int×Int×Int×Str×List Int×Int):Prop:=∃e p',r=entZ e b p'∧p≤p'∧p'≤p+c∧Q e
theorem ZtD {b:List Int} {p:Int} (h:Zi4 b p) (hp:p≤900000000):Ret (ZcU b p) (Zj0 b p 1 fun s=>Zdu s=true∧s∈Zit):=by
 unfold ZcU
 refine .bind (Zld _ h (by omega) (by decide) (by decide)) ?_
 rintro ⟨x,b2,p2⟩ ⟨rfl,k1,k2,k3⟩
 dsimp only at k1 k2 k3 ⊢
 refine .pure ⟨rfl,k1,k2,?_⟩
 dsimp only
 simp only [List.mem_cons,List.not_mem_nil,or_false] at k3
 rcases k3 with rfl | rfl | rfl | rfl | rfl | rfl | rfl<;>exact ⟨by decide +kernel,by decide⟩
theorem ZjC {b:List Int} {p:Int} (h:Zi4 b p) (hp:p≤800000000):Ret (ZbN b p) (ZvR b p 57 fun e=>ZbY e=true∧e.1∈Zit):=by
 unfold ZbN
 refine .bind (ZtD h (by omega)) ?_
 rintro ⟨nm,b1,p1⟩ ⟨rfl,g1,g2,g3⟩
 dsimp only at g1 g2 g3 ⊢
 refine .bind (Zgh (h.up g1) (by omega)) ?_
 rintro _ ⟨y,mo,d,hh,mi,s,p2,rfl,k1,k2,k3⟩
 dsimp only
 refine .bind (ZlH ((h.up g1).up k1) (by omega)) ?_
 rintro ⟨t,b3,p3⟩ ⟨rfl,l1,l2,l3⟩
 dsimp only at l1 l2 l3 ⊢
 refine .pure ⟨(nm,y,mo,d,hh,mi,s,t),p3,rfl,by omega,by omega,?_,g3.2⟩
 unfold ZbY
 dsimp only
 rw [g3.1,k3,decide_eq_true l3];rfl
def ZtY (e:Fil):Prop:=e.1∈Zit∧e.txt.length≤301
theorem ZtY.len {e:Fil} (h:ZtY e):e.1.length≤11:=ZuH _ h.1
theorem ZoJ {e:Fil} (h:ZbY e=true) (hn:e.1∈Zit):ZtY e:=by
 obtain ⟨h1,h2,h3⟩:=Zby h
 exact ⟨hn,by omega⟩
theorem Zot {b:List Int} {p:Int} (h:Zi4 b p) (hp:p≤700000000):Ret (ZbW b p) (ZvR b p 120 ZtY):=by
 unfold ZbW
 refine .bind (ZjC h (by omega)) ?_
 rintro _ ⟨e,p1,rfl,g1,g2,g3⟩
 have hsm:=ZoJ g3.1 g3.2
 unfold entZ
 dsimp only
 refine .bind (ZdH 10 (h.up g1) (by omega) (by omega) (by omega)) ?_
 rintro ⟨x,b2,p2⟩ ⟨rfl,k1,k2,k3⟩
 dsimp only at k1 k2 k3 ⊢
 have h2:=(h.up g1).up k1
 refine .cond (fun _=>?_) fun _=>.cond (fun _=>?_) fun _=>.cond (fun _=>?_) fun _=>.pure ⟨e,p2,rfl,by omega,by omega,hsm⟩
 ·refine .bind (Zos h2 (by omega)) ?_
  rintro ⟨z,b3,p3⟩ ⟨rfl,l1,l2,l3⟩
  dsimp only at l1 l2 l3 ⊢
  exact .pure ⟨(z,e.2),p3,rfl,by omega,by omega,l3,hsm.2⟩
 ·refine .bind (Zor h2 (by omega)) ?_
  rintro _ ⟨y,mo,d,hh,mi,s,p3,rfl,l1,l2,_⟩
  dsimp only
  exact .pure ⟨(e.1,y,mo,d,hh,mi,s,e.txt),p3,rfl,by omega,by omega,hsm⟩
 ·refine .bind (Zp9 h2 (by omega)) ?_
  rintro ⟨z,b3,p3⟩ ⟨rfl,l1,l2,l3⟩
  dsimp only at l1 l2 l3 ⊢
  exact .pure ⟨(e.1,e.2.1,e.2.2.1,e.2.2.2.1,e.2.2.2.2.1,e.2.2.2.2.2.1,e.2.2.2.2.2.2.1,z),p3,rfl,by omega,by omega,hsm.1,l3⟩
def ZvQ (b:List Int) (p c:Int) (Q:List Fil→Prop) (r:List Int×Int×List Fil):Prop:=r.1=b∧p≤r.2.1∧r.2.1≤p+c∧Q r.2.2
theorem ZoI (k:Nat) (hk:k<6) {y mo d h mi s:Int} (hs:stM y mo d h mi s=true):ZfY (k:Int)=some [UInt8.ofNat (48+k)]∧[102]++[UInt8.ofNat (48+k)]∈Zit∧ZbY ([102]++[UInt8.ofNat (48+k)],y,mo,d,h,mi,s,[])=true:=by
 have h1:ZfY (k:Int)=some [UInt8.ofNat (48+k)]∧[102]++[UInt8.ofNat (48+k)]∈Zit∧Zdu ([102]++[UInt8.ofNat (48+k)])=true:=by
  rcases k with _ | _ | _ | _ | _ | _ | k
  ·exact ⟨by decide +kernel,by decide,by decide +kernel⟩
  ·exact ⟨by decide +kernel,by decide,by decide +kernel⟩
  ·exact ⟨by decide +kernel,by decide,by decide +kernel⟩
  ·exact ⟨by decide +kernel,by decide,by decide +kernel⟩
  ·exact ⟨by decide +kernel,by decide,by decide +kernel⟩
  ·exact ⟨by decide +kernel,by decide,by decide +kernel⟩
  ·omega
 refine ⟨h1.1,h1.2.1,?_⟩
 unfold ZbY
 dsimp only
 rw [h1.2.2,hs];rfl
theorem Zny {b:List Int}:∀(j:Nat) (out:List Fil) (p:Int),Zi4 b p→p≤1000000+57*(4-j)→j≤4→out.length+j≤4→(∀e∈out,ZbY e=true∧e.1∈Zit)→
  Ret (ZaF.l0 (j+1) ((j:Int),b,p,out)) fun r=>r.1=b∧p≤r.2.1∧r.2.1≤p+57*j∧r.2.2.length≤4∧∀e∈r.2.2,ZbY e=true∧e.1∈Zit
 | 0,out,p,h,hp,hj,hl,ho=>by
  rw [ZaF.l0.succ];simp only [ZaF.l0.step]
  rw [decide_eq_false (by omega)]
  exact .pure ⟨rfl,by dsimp only;omega,by dsimp only;omega,by dsimp only;omega,ho⟩
 | j+1,out,p,h,hp,hj,hl,ho=>by
  rw [ZaF.l0.succ];simp only [ZaF.l0.step]
  rw [decide_eq_true (by omega),cond_true]
  refine .bind (ZjC h (by omega)) ?_
  rintro _ ⟨e,p1,rfl,g1,g2,g3⟩
  unfold entZ
  dsimp only
  have hnl:=ZcB (Zby g3.1).1
  rw [Zsg out (by omega) e (by omega)]
  simp only [Zaa]
  rw [Zaf (by omega) (by omega),show ((j+1:Nat):Int)-1=(j:Int) by omega]
  refine (Zny j _ p1 (h.up g1) (by omega) (by omega) ?_ ?_).mono ?_
  ·split
   ·simp;omega
   ·omega
  ·split
   ·intro x hx
    rcases List.mem_append.1 hx with hx | hx
    ·exact ho x hx
    ·have:x=e:=by simpa using hx
     subst this;exact g3
   ·exact ho
  ·rintro r ⟨q1,q2,q3,q4,q5⟩
   exact ⟨q1,by omega,by omega,q4,q5⟩
theorem Znx {b:List Int}:∀(j k:Nat) (out:List Fil) (p:Int),k+j=6→Zi4 b p→p≤2000000+6*(6-j)→out.length=k→(∀e∈out,ZbY e=true∧e.1∈Zit)→
  Ret (ZaF.l1 (j+1) ((k:Int),b,p,out)) fun r=>r.1=b∧p≤r.2.1∧r.2.1≤p+6*j∧r.2.2.length≤6∧∀e∈r.2.2,ZbY e=true∧e.1∈Zit
 | 0,k,out,p,hk,h,hp,hl,ho=>by
  rw [ZaF.l1.succ];simp only [ZaF.l1.step]
  rw [decide_eq_false (by omega)]
  exact .pure ⟨rfl,by dsimp only;omega,by dsimp only;omega,by dsimp only;omega,ho⟩
 | j+1,k,out,p,hk,h,hp,hl,ho=>by
  rw [ZaF.l1.succ];simp only [ZaF.l1.step]
  have hd:=(ZoI k (by omega) (Zug (y:=1980) (mo:=1) (d:=1) (h:=0) (mi:=0) (s:=0) (by omega) (by omega) (by omega) (by omega) (by omega) (by omega) (by omega))).1
  rw [decide_eq_true (by omega),cond_true,hd]
  simp only [Zaa]
  rw [Zad (by simp)]
  refine .bind (Zgh h (by omega)) ?_
  rintro _ ⟨y,mo,d,hh,mi,s,p1,rfl,g1,g2,g3⟩
  dsimp only
  have hf:=(ZoI k (by omega) g3).2
  rw [Zad (by simp;omega),Zaf (by omega) (by omega),show (k:Int)+1=((k+1:Nat):Int) by omega]
  refine (Znx j (k+1) _ p1 (by omega) (h.up g1) (by omega) (by simp;omega) ?_).mono ?_
  ·intro x hx
   rcases List.mem_append.1 hx with hx | hx
   ·exact ho x hx
   ·have:x=([102]++[UInt8.ofNat (48+k)],y,mo,d,hh,mi,s,[]):=by simpa using hx
    subst this;exact ⟨hf.2,hf.1⟩
  ·rintro r ⟨q1,q2,q3,q4,q5⟩
   exact ⟨q1,by omega,by omega,q4,q5⟩
theorem Zu6 {b:List Int} {p:Int} (h:Zi4 b p) (hp:p≤1000):Ret (ZaF b p) (ZvQ b p 300 fun es=>es.length≤6∧∀e∈es,ZbY e=true∧e.1∈Zit):=by
 unfold ZaF
 refine .bind (ZdH 5 h (by omega) (by omega) (by omega)) ?_
 rintro ⟨n,b1,p1⟩ ⟨rfl,g1,g2,g3⟩
 dsimp only at g1 g2 g3 ⊢
 obtain ⟨n,rfl⟩:=Int.eq_ofNat_of_zero_le g3.1
 rw [show ((n:Int)-0).toNat+1=n+1 by omega]
 refine .bind (Zny n [] p1 (h.up g1) (by omega) (by omega) (by simp;omega) (by simp)) ?_
 rintro ⟨b2,p2,out⟩ ⟨rfl,k1,k2,k3,k4⟩
 dsimp only at k1 k2 k3 k4 ⊢
 refine .bind (ZdH 24 ((h.up g1).up k1) (by omega) (by omega) (by omega)) ?_
 rintro ⟨x,b3,p3⟩ ⟨rfl,l1,l2,l3⟩
 dsimp only at l1 l2 l3 ⊢
 refine .cond (fun _=>?_) fun _=>.pure ⟨rfl,by dsimp only;omega,by dsimp only;omega,by dsimp only;omega,k4⟩
 rw [show (6-((out.length:Nat):Int)).toNat+1=(6-out.length)+1 by omega]
 refine .bind (Znx (6-out.length) out.length out p3 (by omega) (((h.up g1).up k1).up l1) (by omega) rfl k4) ?_
 rintro ⟨b4,p4,out2⟩ ⟨rfl,m1,m2,m3,m4⟩
 dsimp only at m1 m2 m3 m4 ⊢
 exact .pure ⟨rfl,by dsimp only;omega,by dsimp only;omega,m3,m4⟩
def ZvP (es:List Fil):Prop:=es.length≤7∧∀e∈es,ZtY e
theorem Zqa {b:List Int} {p:Int} (h:Zi4 b p) (hp:p≤1000):Ret (Zcc b p) (ZvQ b p 1000 ZvP):=by
 unfold Zcc
 refine .bind (Zu6 h hp) ?_
 rintro ⟨b1,p1,out⟩ ⟨rfl,g1,g2,g3,g4⟩
 dsimp only at g1 g2 g3 g4 ⊢
 refine .bind (ZdH 8 (h.up g1) (by omega) (by omega) (by omega)) ?_
 rintro ⟨x,b2,p2⟩ ⟨rfl,k1,k2,k3⟩
 dsimp only at k1 k2 k3 ⊢
 refine .cond (fun _=>?_) fun _=>.pure ⟨rfl,by dsimp only;omega,by dsimp only;omega,by dsimp only;omega,fun e he=>ZoJ (g4 e he).1 (g4 e he).2⟩
 refine .bind (Zot ((h.up g1).up k1) (by omega)) ?_
 rintro _ ⟨e,p3,rfl,l1,l2,l3⟩
 unfold entZ
 dsimp only
 rw [Zad (by simp;omega)]
 refine .pure ⟨rfl,by dsimp only;omega,by dsimp only;omega,by simp;omega,fun y hy=>?_⟩
 rcases List.mem_append.1 hy with hy | hy
 ·exact ZoJ (g4 y hy).1 (g4 y hy).2
 ·have:y=e:=by simpa using hy
  subst this;exact l3
def ZgU (xs:List Int):Prop:=∀x∈xs,0≤x∧x≤255
theorem Zoq (xs:List Int) (h:ZgU xs) (hl:xs.length≤1048576):Ret (Zdy xs) fun r=>r.2=0∧Zi4 r.1 r.2:=by
 unfold Zdy
 by_cases c:xs.length>2000
 ·rw [decide_eq_true (by omega),cond_true,Zab _ (by simp;omega)]
  refine .pure ⟨rfl,?_,fun x hx=>h x (List.mem_of_mem_take hx),by omega⟩
  rw [List.length_take];exact Nat.min_le_left ..
 ·rw [decide_eq_false (by omega),cond_false]
  exact .pure ⟨rfl,by dsimp only;omega,h,by omega⟩
theorem ZrD (xs:List Int) (h:ZgU xs) (hl:xs.length≤1048576):Ret (Zqz xs) ZvP:=by
 unfold Zqz
 refine .bind (Zoq xs h hl) ?_
 rintro ⟨b,p⟩ ⟨rfl,hr⟩
 dsimp only at hr ⊢
 refine .bind (Zqa hr (by omega)) ?_
 rintro ⟨b1,p1,out⟩ ⟨rfl,g1,g2,g3⟩
 exact .pure g3
end Ev
end
section
namespace Ev
open Go
theorem Zv2 {es:List Fil} (h:ZeV es=true):(Zen es).length≤1048576:=by have:=ZhW es h;omega
theorem ZrL {es:List Fil} (h:ZeV es=true):ZbE (Zen es)=some (true,es):=by
 rw [Zf3 _ (Zv2 h),Zo2 es h];rfl
theorem Zv3 {es:List Fil} (h:ZeV es=true):Zbx es=some (Zen es):=by
 have:=(ZcH h).2
 rw [Zo0 es (by omega) (Zr7 h),if_pos h]
theorem sm_fil {e:Fil} (h:ZtY e):e.1.length≤1048576:=by have:=h.len;omega
end Ev
end
section
namespace Ev
open Go
def ZvV (e:Fil):Str:=if ZbY e then Zdh e else []
theorem Zju (e:Fil) (hn:e.1.length≤1048576):Zbt e.1 e.2.1 e.2.2.1 e.2.2.2.1 e.2.2.2.2.1 e.2.2.2.2.2.1 e.2.2.2.2.2.2.1 e.2.2.2.2.2.2.2=some (ZvV e):=Zls e hn
theorem Zmx (e:Fil) (hn:e.1.length≤1048576):ZbA e.1 e.2.1 e.2.2.1 e.2.2.2.1 e.2.2.2.2.1 e.2.2.2.2.2.1 e.2.2.2.2.2.2.1 e.2.2.2.2.2.2.2=some (ZvV e):=by
 unfold ZbA ZvV
 rw [Zj4 e hn]
 simp only [Zaa]
 cases hf:ZbY e with
 | false=>rfl
 | true=>
  simp only [Bool.not_true,cond_false]
  rw [Znn e hf];rfl
theorem Zp8 (s:Str) (hs:s.length≤1000000) {b:List Int} {p:Int} (h:Zi4 b p) (hp:p≤800000000):Ret (Zdq s b p) (Zj0 b p 4 fun t=>t.length≤s.length+4):=by
 unfold Zdq
 by_cases c:s=[]
 ·subst c
  exact .pure ⟨rfl,by dsimp only;omega,by dsimp only;omega,by simp⟩
 rw [beq_false_of_ne c,cond_false]
 have hl:0<s.length:=List.length_pos_iff.2 c
 refine .bind (ZdH _ h (by omega) (by omega) (by omega)) ?_
 rintro ⟨k,b1,p1⟩ ⟨rfl,g1,g2,g3⟩
 dsimp only at g1 g2 g3 ⊢
 refine .bind (ZdH 5 (h.up g1) (by omega) (by omega) (by omega)) ?_
 rintro ⟨x,b2,p2⟩ ⟨rfl,k1,k2,k3⟩
 dsimp only at k1 k2 k3 ⊢
 have h2:=(h.up g1).up k1
 refine .cond (fun _=>?_) fun _=>.cond (fun _=>?_) fun _=>.cond (fun _=>?_) fun _=>.pure ⟨rfl,by dsimp only;omega,by dsimp only;omega,by dsimp only;omega⟩
 ·rw [Zab _ (by simp;omega)]
  refine .bind (ZdH 256 h2 (by omega) (by omega) (by omega)) ?_
  rintro ⟨z,b3,p3⟩ ⟨rfl,l1,l2,l3⟩
  dsimp only at l1 l2 l3 ⊢
  rw [Zaf (by omega) (by omega),Zad (by simp [Zbf];omega),Zab _ (by simp;omega),Zad (by simp [Zbf];omega)]
  refine .pure ⟨rfl,by dsimp only;omega,by dsimp only;omega,?_⟩
  simp [Zbf];omega
 ·rw [Zab _ (by simp;omega)]
  refine .pure ⟨rfl,by dsimp only;omega,by dsimp only;omega,?_⟩
  dsimp only
  rw [List.length_take];omega
 ·refine .bind (Zld _ h2 (by omega) (by decide) (by decide)) ?_
  rintro ⟨z,b3,p3⟩ ⟨rfl,l1,l2,l3⟩
  dsimp only at l1 l2 l3 ⊢
  have hz:z.length≤4:=by
   simp only [List.mem_cons,List.not_mem_nil,or_false] at l3
   rcases l3 with rfl | rfl | rfl<;>decide
  rw [Zad (by omega)]
  refine .pure ⟨rfl,by dsimp only;omega,by dsimp only;omega,?_⟩
  dsimp only
  rw [List.length_append];omega
theorem ZmH (xs:List Int) (h:ZgU xs) (hl:xs.length≤1048576):Ret (ZbC xs) fun s=>s.length≤1000:=by
 unfold ZbC
 refine .bind (Zoq xs h hl) ?_
 rintro ⟨b,p⟩ ⟨rfl,hr⟩
 dsimp only at hr ⊢
 refine .bind (ZjC hr (by omega)) ?_
 rintro _ ⟨e,p1,rfl,g1,g2,g3⟩
 have hle:=Zhb g3.1
 unfold entZ
 dsimp only
 rw [Zmx e (by have:=(ZcB (Zby g3.1).1);omega)]
 simp only [Zaa]
 unfold ZvV
 rw [if_pos g3.1]
 refine .bind (Zp8 (Zdh e) (by omega) (hr.up g1) (by omega)) ?_
 rintro ⟨t,b2,p2⟩ ⟨rfl,k1,k2,k3⟩
 dsimp only at k3 ⊢
 exact .pure (by omega)
theorem Znj (e:Fil) (h:ZbY e=true) (x:Str) (hx:x.length≤1000000):ZbM (Zdh e++x)=some (e.1,e.2.1,e.2.2.1,e.2.2.2.1,e.2.2.2.2.1,e.2.2.2.2.2.1,e.2.2.2.2.2.2.1,e.2.2.2.2.2.2.2,((Zdh e).length:Int),true):=by
 have:=Zhb h
 rw [Zh4 _ (by rw [List.length_append];omega),ZpQ e h x];rfl
theorem ZvG (c:UInt8):∃d,Zbf [IntKind.wrap .u8 ((c.toNat:Int)+1)]=[d]∧d≠c:=by
 have key:∀n:Fin 256,(Zbf [IntKind.wrap .u8 ((n.val:Int)+1)]).length=1∧Zbf [IntKind.wrap .u8 ((n.val:Int)+1)]≠[UInt8.ofNat n.val]:=by decide +kernel
 have hc:c.toNat<256:=by have:=c.toNat_lt;simpa using this
 obtain ⟨k1,k2⟩:=key ⟨c.toNat,hc⟩
 dsimp only at k1 k2
 match hm:Zbf [IntKind.wrap .u8 ((c.toNat:Int)+1)],k1 with
 | [d],_=>
  refine ⟨d,rfl,fun e=>k2 ?_⟩
  rw [hm,e]
  congr 1
  exact (UInt8.ofNat_toNat).symm
theorem Zk3 (s:Str) (hs:s.length≤1048576):ZbB s=some (ZvY (Zf2 s)):=by
 unfold ZbB
 obtain ⟨r,er,hp⟩:=ZlA s hs
 unfold ZmJ at hp
 rw [er]
 simp only [Zaa]
 cases hm:Zf2 s with
 | none=>
  rw [hm] at hp
  dsimp only at hp
  rw [hp];rfl
 | some p=>
  rw [hm] at hp
  dsimp only at hp
  subst hp
  obtain ⟨e,n⟩:=p
  rfl
theorem Zms (xs:List Int) (h:ZgU xs):FnLocalGet xs=some true:=by
 unfold FnLocalGet
 by_cases c:xs.length>1048576
 ·rw [decide_eq_true (by omega)];rfl
 rw [decide_eq_false (by omega),cond_false]
 obtain ⟨s,hd,hs⟩:=ZmH xs h (by omega)
 rw [hd]
 simp only [Zaa]
 rw [Zh4 s (by omega),Zk3 s (by omega)]
 simp only [Zaa,beq_self_eq_true,bne_self_eq_false,Bool.and_true,Bool.and_self,Bool.not_true,cond_false,cond_true]
 cases hm:Zf2 s with
 | none=>rfl
 | some p=>
  obtain ⟨e,n⟩:=p
  have hf:=Ztx hm
  have hn:=(ZeI hm).2.1
  have hl:=(ZcB (Zby hf).1).2
  unfold ZvY
  dsimp only
  simp only [Bool.not_true,cond_false]
  rw [Zju e (by omega)]
  simp only [Zaa]
  have hp:ZvV e=Zdh e:=by unfold ZvV;rw [if_pos hf]
  have hg:=Znj e hf [] (by simp)
  rw [List.append_nil] at hg
  rw [hp,hg]
  simp only [Zaa,beq_self_eq_true,Bool.and_true,Bool.and_self,cond_true]
  rw [ZsG e (by omega),hf]
  simp only [Zaa,cond_true]
  rw [decide_eq_true (by omega)]
end Ev
end
section
namespace Ev
open Go
theorem ZdS {xs:List Int} (h:ZgU xs) (hl:xs.length≤1048576):∃es,Za3 xs=some es∧ZvP es∧Zbx es=some (if ZeV es then Zen es else [])∧ZaI es=some (if ZeV es then Zen es else [])∧ZcY es=some (ZeV es)∧Zap es=some (ZeV es):=by
 obtain ⟨es,he,hs⟩:=ZrD xs h hl
 have hn:es.length≤1048576:=by have:=hs.1;omega
 have hx:∀e∈es,e.1.length≤1048576:=fun e he=>sm_fil (hs.2 e he)
 exact ⟨es,he,hs,Zo0 es hn hx,Zn6 es hn hx,Zkv es hn hx,Zi5 es hn hx⟩
theorem ZqY (es:List Fil):(Zen es==[])=false:=by
 apply beq_false_of_ne
 intro q
 have:=congrArg List.length q
 unfold Zen Zcx at this
 rw [List.length_append,List.length_append,Zfs] at this
 simp at this
theorem ZlW (a b:List Fil):ZbD (a++b)=ZbD a++ZbD b:=by unfold ZbD;rw [List.map_append,List.flatten_append]
theorem Zrz (es:List Fil) (i:Nat):ZbD es=ZbD (es.take i)++ZbD (es.drop i):=by rw [←ZlW,List.take_append_drop]
theorem Zhk (ls:List Str):∃a b r,Zcx ls=80::75::a::b::r∧((a=1∧b=2)∨(a=5∧b=6)):=by
 have h1:leB 33639248 4=[80,75,1,2]:=by decide
 have h2:leB 101010256 4=[80,75,5,6]:=by decide
 cases ls with
 | nil=>
  unfold Zcx Zch ZtP
  rw [h2]
  exact ⟨5,6,_,rfl,.inr ⟨rfl,rfl⟩⟩
 | cons l r=>
  unfold Zcx Zch ZhF
  rw [h1]
  exact ⟨1,2,_,rfl,.inl ⟨rfl,rfl⟩⟩
theorem ZiY (es:List Fil) (hz:ZeV es=true):∀(j i:Nat),i+j=es.length→FnZipOrder.l0 (j+1) (Zen es,((ZbD (es.take i)).length:Int),(i:Int),es)=some (.inl (Zen es,((ZbD es).length:Int)))
 | 0,i,h=>by
  rw [FnZipOrder.l0.succ];simp only [FnZipOrder.l0.step]
  rw [ZaZ (by omega),List.take_of_length_le (by omega)];rfl
 | j+1,i,h=>by
  have hi:i<es.length:=by omega
  have h6:=(ZcH hz).2
  have hf:=(ZcH hz).1 es[i] (List.getElem_mem hi)
  have hle:=Zhb hf
  have hzl:=ZhW es hz
  have hfl:=Zrz es i
  have hd:ZbD (es.drop i)=Zdh es[i]++ZbD (es.drop (i+1)):=by rw [List.drop_eq_getElem_cons hi,Zfd]
  have hn:ZbD (es.take (i+1))=ZbD (es.take i)++Zdh es[i]:=by
   rw [List.take_succ_eq_append_getElem hi,ZlW,Zfd];simp [ZbD]
  have hlen:(Zen es).length=(ZbD (es.take i)).length+((Zdh es[i]).length+(ZbD (es.drop (i+1))++Zcx (es.map Zdh)).length):=by
   unfold Zen;rw [hfl,hd];simp only [List.length_append];omega
  rw [FnZipOrder.l0.succ];simp only [FnZipOrder.l0.step]
  rw [ZaY hi,cond_true,Zab _ (by simp;omega),Int.toNat_natCast]
  have hdr:(Zen es).drop (ZbD (es.take i)).length=Zdh es[i]++(ZbD (es.drop (i+1))++Zcx (es.map Zdh)):=by
   unfold Zen
   rw [hfl,List.append_assoc,List.drop_left' rfl,hd,List.append_assoc]
  rw [hdr,Znj es[i] hf _ (by omega)]
  simp only [Zaa,Bool.not_true,cond_false]
  rw [Zab _ ZaB,Int.toNat_natCast,Zhy es i hi]
  simp only [beq_self_eq_true,Bool.and_true,Bool.and_self,Bool.not_true,Zaa,cond_false]
  rw [Zaf (by omega) (by omega),Zaf (by omega) (by omega),show (i:Int)+1=((i+1:Nat):Int) by omega,show (((ZbD (es.take i)).length:Nat):Int)+(((Zdh es[i]).length:Nat):Int)=(((ZbD (es.take (i+1))).length:Nat):Int) by rw [hn,List.length_append];omega]
  exact ZiY es hz j (i+1) (by omega)
theorem Zmq (xs:List Int) (h:ZgU xs):FnZipOrder xs=some true:=by
 unfold FnZipOrder
 by_cases c:xs.length>1048576
 ·rw [decide_eq_true (by omega)];rfl
 rw [decide_eq_false (by omega),cond_false]
 obtain ⟨es,he,hs,h1,h2,_,_⟩:=ZdS h (by omega)
 rw [he]
 simp only [Zaa]
 rw [h1,h2]
 simp only [Zaa,beq_self_eq_true,Bool.not_true,cond_false]
 cases hz:ZeV es with
 | false=>rfl
 | true=>
  rw [if_pos rfl,ZqY]
  have hl:=ZiY es hz es.length 0 (by omega)
  rw [show ((0:Nat):Int)=0 from rfl,show (((ZbD (es.take 0)).length:Nat):Int)=0 from rfl] at hl
  rw [cond_false,ZaG,hl]
  simp only [Zaa]
  obtain ⟨a,b,r,hc,_⟩:=Zhk (es.map Zdh)
  have hzl:=ZhW es hz
  have hlen:(Zen es).length=(ZbD es).length+(r.length+4):=by unfold Zen;rw [hc];simp
  rw [Zaf (by omega) (by omega),show (((ZbD es).length:Nat):Int)+2=(((ZbD es).length+2:Nat):Int) by omega,Zab _ (by simp;omega),Zab _ (by simp;omega),Int.toNat_natCast,Int.toNat_natCast]
  have ht:(((Zen es).take ((ZbD es).length+2)).drop (ZbD es).length==[80,75])=true:=by
   have e:Zen es=ZbD es++(80::75::a::b::r):=by unfold Zen;rw [hc]
   rw [e,List.take_length_add_append,List.drop_left' rfl];rfl
  rw [ht,cond_true]
  simp only [Zaa]
  rw [decide_eq_true (by omega)]
theorem ZgZ {es:List Fil} (hz:ZeV es=true) (rest:Str) (hr:leN rest 0 4≠67324752) (hne:rest≠Zcx (es.map Zdh)):Zdl (ZbD es++rest)=none:=by
 obtain ⟨h1,h2⟩:=ZcH hz
 unfold Zdl
 rw [Zh0 rest (ZpP hr) es 6 h2 h1]
 exact if_neg (fun q=>hne q.2)
theorem Zon (s:Str) (h:s.take 4≠[80,75,3,4]) (hl:4≤s.length):leN s 0 4≠67324752:=by
 intro q
 apply h
 unfold leN at q
 rw [List.drop_zero] at q
 have:=Zrm (s.take 4)
 rw [q,List.length_take,Nat.min_eq_left hl] at this
 rw [←this];decide
theorem ZjS (ls:List Str):22≤(Zcx ls).length:=by
 unfold Zcx;rw [List.length_append,Zfs];omega
theorem ZoT (xs:List Int) (h:ZgU xs):FnZipCut xs=some true:=by
 unfold FnZipCut
 by_cases c:xs.length>1048576
 ·rw [decide_eq_true (by omega)];rfl
 rw [decide_eq_false (by omega),cond_false]
 obtain ⟨es,he,hs,h1,h2,_,_⟩:=ZdS h (by omega)
 rw [he]
 simp only [Zaa]
 rw [h1,h2]
 simp only [Zaa,beq_self_eq_true,Bool.not_true,cond_false]
 cases hz:ZeV es with
 | false=>rfl
 | true=>
  rw [if_pos rfl,ZqY,cond_false]
  obtain ⟨a,b,r,hc,hab⟩:=Zhk (es.map Zdh)
  have hzl:=ZhW es hz
  have hcl:=ZjS (es.map Zdh)
  have hlen:(Zen es).length=(ZbD es).length+(Zcx (es.map Zdh)).length:=by unfold Zen;rw [List.length_append]
  have hrl:(Zcx (es.map Zdh)).length=r.length+4:=by rw [hc];simp
  have hcut:Zdl ((Zen es).take ((Zen es).length-1))=none:=by
   have e:(Zen es).take ((Zen es).length-1)=ZbD es++(80::75::a::b::r.take (r.length-1)):=by
    have e0:Zen es=ZbD es++(80::75::a::b::r):=by unfold Zen;rw [hc]
    rw [show (Zen es).length-1=(ZbD es).length+(r.length-1+1+1+1+1) by omega,e0,List.take_length_add_append]
    simp only [List.take_succ_cons]
   rw [e]
   refine ZgZ hz _ (Zon _ ?_ (by simp)) ?_
   ·rcases hab with ⟨rfl,rfl⟩ | ⟨rfl,rfl⟩<;>simp
   ·intro q
    rw [hc] at q
    have:=congrArg List.length q
    simp at this
    omega
  have hmore:Zdl (Zen es++[0])=none:=by
   have e:Zen es++[0]=ZbD es++(80::75::a::b::(r++[0])):=by unfold Zen;rw [hc];simp
   rw [e]
   refine ZgZ hz _ (Zon _ ?_ (by simp)) ?_
   ·rcases hab with ⟨rfl,rfl⟩ | ⟨rfl,rfl⟩<;>simp
   ·intro q
    rw [hc] at q
    have:=congrArg List.length q
    simp at this
  have hnil:Zdl []=none:=by
   unfold Zdl
   have hh:Zbo 6 []=([],[],[]):=by
    rw [Zbo,show Zf2 []=none from by unfold Zf2;rw [if_pos (by simp)]]
   rw [hh]
   refine if_neg ?_
   rintro ⟨_,q⟩
   have:=congrArg List.length q
   have h22:=ZjS []
   dsimp only at this
   rw [←this] at h22
   simp at h22
  rw [Zaf (by omega) (by omega),Zab _ (by simp;omega),show (((Zen es).length:Int)-1).toNat=(Zen es).length-1 by omega,Zf3 _ (by rw [List.length_take];omega),hcut]
  simp only [Zaa]
  rw [Zad (by simp;omega),Zf3 _ (by simp;omega),hmore]
  simp only [Zaa]
  rw [Zf3 [] (by simp),hnil]
  rfl
theorem ZiZ (es:List Fil) (hz:ZeV es=true) (more:List Int) (s:Str):∀(j i:Nat),i+j=es.length→FnZipHeads.l0 (j+1) (more,s,((ZbD (es.take i)).length:Int),(i:Int),es)=some (more,s,((ZbD es).length:Int))
 | 0,i,h=>by
  rw [FnZipHeads.l0.succ];simp only [FnZipHeads.l0.step]
  rw [ZaZ (by omega),List.take_of_length_le (by omega)];rfl
 | j+1,i,h=>by
  have hi:i<es.length:=by omega
  have h6:=(ZcH hz).2
  have hf:=(ZcH hz).1 es[i] (List.getElem_mem hi)
  have hle:=Zhb hf
  have hnm:=Zi6 hz es[i] (List.getElem_mem hi)
  have hn:ZbD (es.take (i+1))=ZbD (es.take i)++Zdh es[i]:=by
   rw [List.take_succ_eq_append_getElem hi,ZlW,Zfd];simp [ZbD]
  have hbig:(ZbD (es.take i)).length≤373*(es.take i).length:=by
   rw [ZfI]
   exact ZkB _ (fun e he=>(ZcH hz).1 e (List.mem_of_mem_take he))
  rw [List.length_take] at hbig
  rw [FnZipHeads.l0.succ];simp only [FnZipHeads.l0.step]
  rw [ZaY hi,cond_true,Zab _ ZaB,Int.toNat_natCast,Zhy es i hi,Zju _ (by omega)]
  simp only [Zaa]
  have hp:ZvV es[i]=Zdh es[i]:=by unfold ZvV;rw [if_pos hf]
  rw [hp,Zaf (by omega) (by omega),Zaf (by omega) (by omega),show (i:Int)+1=((i+1:Nat):Int) by omega,show (((ZbD (es.take i)).length:Nat):Int)+(((Zdh es[i]).length:Nat):Int)=(((ZbD (es.take (i+1))).length:Nat):Int) by rw [hn,List.length_append];omega]
  exact ZiZ es hz more s j (i+1) (by omega)
theorem Zmr (xs:List Int) (h:ZgU xs) (ys:List Int) (h':ZgU ys):FnZipHeads xs ys=some true:=by
 unfold FnZipHeads
 by_cases c:xs.length>1048576
 ·rw [decide_eq_true (by omega)];rfl
 rw [decide_eq_false (by omega),cond_false]
 simp only [Zaa]
 by_cases c':ys.length>1048576
 ·rw [decide_eq_true (by omega)];rfl
 rw [decide_eq_false (by omega),cond_false]
 obtain ⟨es,he,hs,h1,h2,_,_⟩:=ZdS h (by omega)
 rw [he]
 simp only [Zaa]
 rw [h1,h2]
 simp only [Zaa,beq_self_eq_true,Bool.not_true,cond_false]
 cases hz:ZeV es with
 | false=>rfl
 | true=>
  rw [if_pos rfl,ZqY,cond_false]
  have hl:=ZiZ es hz ys (Zen es) es.length 0 (by omega)
  rw [show ((0:Nat):Int)=0 from rfl,show (((ZbD (es.take 0)).length:Nat):Int)=0 from rfl] at hl
  rw [ZaG,hl]
  simp only [Zaa]
  obtain ⟨a,b,r,hc,hab⟩:=Zhk (es.map Zdh)
  have hzl:=ZhW es hz
  have hcl:=ZjS (es.map Zdh)
  have hlen:(Zen es).length=(ZbD es).length+(Zcx (es.map Zdh)).length:=by unfold Zen;rw [List.length_append]
  have hsub:w64 (((Zen es).length:Int)-((ZbD es).length:Int))=(((Zcx (es.map Zdh)).length:Nat):Int):=by rw [Zaf (by omega) (by omega)];omega
  generalize hCl:Zcx (es.map Zdh)=C at hc hcl hlen hsub
  have hm:=Nat.mod_lt ys.length (show 0<C.length by omega)
  have hk:w64 (((ZbD es).length:Int)+((ys.length:Int).tmod (C.length:Int)))=(((ZbD es).length+ys.length%C.length:Nat):Int):=by
   rw [Zaz (by omega),Zaf (by omega) (by omega)];omega
  rw [hsub,hk,Zat (by omega)]
  generalize hj:ys.length%C.length=j at hm
  rw [Zab _ (by simp;omega),Zab _ (by simp;omega),Int.toNat_natCast]
  obtain ⟨d,hbd,hdne⟩:=ZvG ((Zen es).getD ((ZbD es).length+j) 0)
  rw [hbd,Zaf (n:=(((ZbD es).length+j:Nat):Int)+1) (by omega) (by omega),show (((ZbD es).length+j:Nat):Int)+1=(((ZbD es).length+(j+1):Nat):Int) by omega,Int.toNat_natCast,Zad (by simp;omega),Zab _ (by simp;omega),Zad (by simp;omega)]
  have hT:Zen es=ZbD es++C:=by unfold Zen;rw [hCl]
  have e3:(Zen es).getD ((ZbD es).length+j) 0=C.getD j 0:=by
   rw [hT]
   simp only [List.getD_eq_getElem?_getD]
   rw [List.getElem?_append_right (by omega),Nat.add_sub_cancel_left]
  rw [e3,Zam hm] at hdne
  have hb:(Zen es).take ((ZbD es).length+j)++[d]++(Zen es).drop ((ZbD es).length+(j+1))=ZbD es++(C.take j++d::C.drop (j+1)):=by
   rw [hT,List.take_length_add_append,←List.drop_drop,List.drop_left' rfl]
   simp only [List.append_assoc,List.cons_append,List.nil_append]
  have hset:C.take j++d::C.drop (j+1)=C.set j d:=by rw [List.set_eq_take_append_cons_drop,if_pos hm]
  have hno:Zdl (ZbD es++(C.take j++d::C.drop (j+1)))=none:=by
   rw [hset]
   refine ZgZ hz _ (Zon _ ?_ (by rw [List.length_set];omega)) ?_
   ·intro q
    have g2:=congrArg (·[2]?) q
    have g3:=congrArg (·[3]?) q
    simp only [List.getElem?_take,List.getElem?_set] at g2 g3
    rw [hc] at g2 g3
    by_cases hj2:j=2
    ·subst hj2
     rcases hab with ⟨rfl,rfl⟩ | ⟨rfl,rfl⟩<;>simp at g3
    ·rcases hab with ⟨rfl,rfl⟩ | ⟨rfl,rfl⟩<;>simp [hj2] at g2
   ·rw [hCl]
    intro q
    have:=congrArg (·[j]?) q
    simp only [List.getElem?_set,if_pos hm,List.getElem?_eq_getElem hm] at this
    simp at this
    exact hdne this
  rw [hb,Zf3 _ (by simp;omega),hno]
  rfl
end Ev
end
