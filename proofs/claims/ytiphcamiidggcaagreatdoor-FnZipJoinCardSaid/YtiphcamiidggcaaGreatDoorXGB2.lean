/- Plain laws about what the functions compute. Conditions: as stated. -/
import Derived.Lib.Bytealg
import Derived.Test.YtiphcamiidggcaaGreatDoorXGB1
set_option linter.unusedVariables false
set_option linter.unusedSimpArgs false
section
namespace Ev
open Go
def leB (n:Nat):Nat→Str
 | 0=>[]
 | k+1=>UInt8.ofNat (n%256)::leB (n/256) k
def leV:Str→Nat
 | []=>0
 | c::r=>c.toNat+256*leV r
def leN (s:Str) (a k:Nat):Nat:=leV ((s.drop a).take k)
theorem ZaN (n k:Nat):(leB n k).length=k:=by
 induction k generalizing n with
 | zero=>rfl
 | succ k ih=>simp [leB,ih]
theorem ZyU:∀s:Str,leV s<256^s.length
 | []=>by simp [leV]
 | c::r=>by
  have:=ZyU r
  have hc:c.toNat<256:=UInt8.toNat_lt _
  simp only [leV,List.length_cons,Nat.pow_succ]
  omega
theorem ZsW (k:Nat):∀n,leV (leB n k)=n%256^k:=by
 induction k with
 | zero=>intro n;simp [leB,leV,Nat.mod_one]
 | succ k ih=>
  intro n
  simp only [leB,leV,ih]
  rw [UInt8.toNat_ofNat_of_lt' (by omega:n%256<256),Nat.pow_succ,Nat.mul_comm (256^k),Nat.mod_mul]
theorem ZwA:∀s:Str,leB (leV s) s.length=s
 | []=>rfl
 | c::r=>by
  have hc:c.toNat<256:=UInt8.toNat_lt _
  simp only [List.length_cons,leB,leV]
  rw [show (c.toNat+256*leV r)/256=leV r by omega,show (c.toNat+256*leV r)%256=c.toNat by omega,ZwA r]
  simp
theorem Zg1 (s:Str) (a k:Nat):leN s a k<256^k:=by
 have h:=ZyU ((s.drop a).take k)
 have:256^((s.drop a).take k).length≤256^k:=Nat.pow_le_pow_right (by omega) (by rw [List.length_take];omega)
 unfold leN;omega
theorem Zq1 (K:Nat) (hK:K≤1000):∀(j i:Nat) (n:Nat) (out:List Int),i+j=K→n<9223372036854775808→out.length=i→
  ZbC.l0 (j+1) ((n:Int),(K:Int),(i:Int),out)=some (out++(leB n j).map fun c=>(c.toNat:Int))
 | 0,i,n,out,h,hn,ho=>by
  rw [ZbC.l0.succ];simp only [ZbC.l0.step]
  rw [ZaR (by omega)];simp [leB]
 | j+1,i,n,out,h,hn,ho=>by
  rw [ZbC.l0.succ];simp only [ZbC.l0.step]
  rw [ZaQ (by omega),cond_true,Zad (by simp;omega),ZaB (by omega),Zax (by omega),show (n:Int)%256=((n%256:Nat):Int) by omega,wrap_u8 _ (by omega),show (n:Int)/256=((n/256:Nat):Int) by omega,
   Zaf (by omega) (by omega),Zaf (by omega) (by omega),show (i:Int)+1=((i+1:Nat):Int) by omega,Zq1 K hK j (i+1) (n/256) _ (by omega) (by omega) (by simp [ho])]
  simp only [leB,List.map_cons]
  rw [UInt8.toNat_ofNat_of_lt' (by omega:n%256<256)]
  simp
theorem ZhL (s:Str):ZbF (s.map fun c=>(c.toNat:Int))=s:=by
 unfold ZbF
 rw [List.map_map]
 have:∀c:UInt8,((fun n:Int=>UInt8.ofNat n.toNat) ∘ fun c:UInt8=>(c.toNat:Int)) c=c:=fun c=>by simp
 induction s with
 | nil=>rfl
 | cons c r ih=>rw [List.map_cons,this,ih]
theorem ZcF (n k:Nat) (hn:n<9223372036854775808) (hk:k≤1000):ZbC (n:Int) (k:Int)=some (leB n k):=by
 have h:=Zq1 k hk k 0 n [] (by omega) hn rfl
 rw [show ((0:Nat):Int)=0 from rfl,List.nil_append] at h
 unfold ZbC
 rw [Int.sub_zero,Int.toNat_natCast,h]
 simp only [Zaa]
 rw [ZhL]
theorem ZoO (K:Nat) (hK:K≤1000):∀(j i:Nat) (n:Nat) (out:List Int),i+j=K→n<9223372036854775808→out.length=i→
  Zaw.l0 (j+1) ((n:Int),(K:Int),(i:Int),out)=some (out++(leB n j).map fun c=>(c.toNat:Int))
 | 0,i,n,out,h,hn,ho=>by
  rw [Zaw.l0.succ];simp only [Zaw.l0.step]
  rw [ZaR (by omega)];simp [leB]
 | j+1,i,n,out,h,hn,ho=>by
  rw [Zaw.l0.succ];simp only [Zaw.l0.step]
  rw [ZaQ (by omega),cond_true,Zad (by simp;omega),ZaB (by omega),Zax (by omega),show (n:Int)%256=((n%256:Nat):Int) by omega,wrap_u8 _ (by omega),show (n:Int)/256=((n/256:Nat):Int) by omega,
   Zaf (by omega) (by omega),Zaf (by omega) (by omega),show (i:Int)+1=((i+1:Nat):Int) by omega,ZoO K hK j (i+1) (n/256) _ (by omega) (by omega) (by simp [ho])]
  simp only [leB,List.map_cons]
  rw [UInt8.toNat_ofNat_of_lt' (by omega:n%256<256)]
  simp
theorem Zbg (n k:Nat) (hn:n<9223372036854775808) (hk:k≤1000):Zaw (n:Int) (k:Int)=some (leB n k):=by
 have h:=ZoO k hk k 0 n [] (by omega) hn rfl
 rw [show ((0:Nat):Int)=0 from rfl,List.nil_append] at h
 unfold Zaw
 rw [Int.sub_zero,Int.toNat_natCast,h]
 simp only [Zaa]
 rw [ZhL]
theorem ZtR (s:Str) (a m:Nat) (h:a<s.length):leN s a (m+1)=(s.getD a 0).toNat+256*leN s (a+1) m:=by
 unfold leN
 rw [List.drop_eq_getElem_cons h,List.take_succ_cons,leV,Zal h]
theorem ZmD (s:Str) (a:Nat) (K:Nat) (hK:K≤4) (hs:s.length≤1000000000) (h:a+K≤s.length):∀(j m:Nat),j+m=K→
  Zbb.l0 (j+1) (s,(a:Int),((leN s (a+j) m:Nat):Int),(j:Int)-1)=some ((leN s a K:Nat):Int)
 | 0,m,hm=>by
  rw [Zbb.l0.succ];simp only [Zbb.l0.step]
  rw [decide_eq_false (by omega),show m=K by omega];rfl
 | j+1,m,hm=>by
  have hb:=Zg1 s (a+(j+1)) m
  have hp:256^m≤256^4:=Nat.pow_le_pow_right (by omega) (by omega)
  have hc:(s.getD (a+j) 0).toNat<256:=UInt8.toNat_lt _
  have hst:=ZtR s (a+j) m (by omega)
  rw [Zbb.l0.succ];simp only [Zbb.l0.step]
  rw [show ((j+1:Nat):Int)-1=(j:Int) by omega,decide_eq_true (by omega),cond_true,Zaf (n:=(a:Int)+(j:Int)) (by omega) (by omega),show (a:Int)+(j:Int)=((a+j:Nat):Int) by omega,Zab _ (Zay (by omega)),Int.toNat_natCast,
   Zaf (n:=((s.getD (a+j) 0).toNat:Int)) (by omega) (by omega),Zaf (n:=256*((leN s (a+(j+1)) m:Nat):Int)) (by omega) (by omega),Zaf (by omega) (by omega),Zaf (by omega) (by omega)]
  have e:256*((leN s (a+(j+1)) m:Nat):Int)+((s.getD (a+j) 0).toNat:Int)=((leN s (a+j) (m+1):Nat):Int):=by
   rw [hst,Nat.add_assoc];omega
  rw [e]
  exact ZmD s a K hK hs h j (m+1) (by omega)
theorem Zf2 (s:Str) (a K:Nat) (hK:K≤4) (hK1:1≤K) (hs:s.length≤1000000000) (h:a+K≤s.length):Zbb s (a:Int) (K:Int)=some ((leN s a K:Nat):Int):=by
 have e:=ZmD s a K hK hs h K 0 (by omega)
 rw [show leN s (a+K) 0=0 by simp [leN,leV],show ((0:Nat):Int)=0 from rfl] at e
 unfold Zbb
 rw [Zaf (by omega) (by omega),show ((K:Int)-1-0).toNat+2=K+1 by omega,e]
 rfl
theorem ZtW (s:Str) (a:Nat) (K:Nat) (hK:K≤4) (hs:s.length≤1000000000) (h:a+K≤s.length):∀(j m:Nat),j+m=K→
  Zcp.l0 (j+1) (s,(a:Int),((leN s (a+j) m:Nat):Int),(j:Int)-1)=some ((leN s a K:Nat):Int)
 | 0,m,hm=>by
  rw [Zcp.l0.succ];simp only [Zcp.l0.step]
  rw [decide_eq_false (by omega),show m=K by omega];rfl
 | j+1,m,hm=>by
  have hb:=Zg1 s (a+(j+1)) m
  have hp:256^m≤256^4:=Nat.pow_le_pow_right (by omega) (by omega)
  have hc:(s.getD (a+j) 0).toNat<256:=UInt8.toNat_lt _
  have hst:=ZtR s (a+j) m (by omega)
  rw [Zcp.l0.succ];simp only [Zcp.l0.step]
  rw [show ((j+1:Nat):Int)-1=(j:Int) by omega,decide_eq_true (by omega),cond_true,Zaf (n:=(a:Int)+(j:Int)) (by omega) (by omega),show (a:Int)+(j:Int)=((a+j:Nat):Int) by omega,Zab _ (Zay (by omega)),Int.toNat_natCast,
   Zaf (n:=((s.getD (a+j) 0).toNat:Int)) (by omega) (by omega),Zaf (n:=256*((leN s (a+(j+1)) m:Nat):Int)) (by omega) (by omega),Zaf (by omega) (by omega),Zaf (by omega) (by omega)]
  have e:256*((leN s (a+(j+1)) m:Nat):Int)+((s.getD (a+j) 0).toNat:Int)=((leN s (a+j) (m+1):Nat):Int):=by
   rw [hst,Nat.add_assoc];omega
  rw [e]
  exact ZtW s a K hK hs h j (m+1) (by omega)
theorem ZpP (s:Str) (a K:Nat) (hK:K≤4) (hK1:1≤K) (hs:s.length≤1000000000) (ha:a≤2000000000):Zcp s (a:Int) (K:Int)=some (if a+K≤s.length then ((leN s a K:Nat):Int) else -1):=by
 unfold Zcp
 rw [decide_eq_false (by omega),cond_false,Zaf (by omega) (by omega)]
 simp only [Zaa]
 by_cases h:a+K≤s.length
 ·have e:=ZtW s a K hK hs h K 0 (by omega)
  rw [show leN s (a+K) 0=0 by simp [leN,leV],show ((0:Nat):Int)=0 from rfl] at e
  rw [if_pos h,decide_eq_false (by omega),cond_false,Zaf (by omega) (by omega),show ((K:Int)-1-0).toNat+2=K+1 by omega,e]
  rfl
 ·rw [if_neg h,decide_eq_true (by omega),cond_true]
end Ev
end
section
namespace Ev
open Go
theorem ZsY:Zg2=Zpb:=rfl
theorem Zxc (y mo:Int):∃n,Zpb y mo=some n∧n≤31:=by
 unfold Zpb
 cases (mo==4)<;>cases (mo==6)<;>cases (mo==9)<;>cases (mo==11)<;>simp only [cond_true,cond_false,Zaa]<;>first
  | exact ⟨30,rfl,by omega⟩
  | (cases (mo==2)<;>simp only [cond_true,cond_false,Zaa]<;>first
    | exact ⟨31,rfl,by omega⟩
    | (cases (y.tmod 4==0)<;>simp only [cond_true,cond_false,Zaa]<;>first
      | exact ⟨28,rfl,by omega⟩
      | (cases (y.tmod 100 != 0)<;>simp only [cond_true,cond_false,Zaa]<;>first
        | exact ⟨29,rfl,by omega⟩
        | (cases (y.tmod 400==0)<;>first
          | exact ⟨29,rfl,by omega⟩
          | exact ⟨28,rfl,by omega⟩))))
theorem ZyA (y mo:Int):∃n,Zpb y mo=some n:=by
 obtain ⟨n,h,_⟩:=Zxc y mo
 exact ⟨n,h⟩
def ZnZ (y mo:Int):Int:=(Zpb y mo).getD 0
theorem Zxd (y mo:Int):Zpb y mo=some (ZnZ y mo):=by
 obtain ⟨n,h⟩:=ZyA y mo
 unfold ZnZ;rw [h];rfl
def stM (y mo d h mi sec:Int):Bool:=decide (1980≤y∧y≤2107)&&(decide (1≤mo∧mo≤12)&&(decide (1≤d∧d≤ZnZ y mo)&&(decide (0≤h∧h≤23)&&(decide (0≤mi∧mi≤59)&&(decide (0≤sec∧sec≤58)&&(sec.tmod 2==0))))))
theorem Zkj (y mo d h mi sec:Int):ZdJ y mo d h mi sec=some (stM y mo d h mi sec):=by
 unfold ZdJ stM
 simp only [Zd5,Zxd,Zaa]
 cases decide (1980≤y∧y≤2107)<;>cases decide (1≤mo∧mo≤12)<;>cases decide (1≤d∧d≤ZnZ y mo)<;>cases decide (0≤h∧h≤23)<;>cases decide (0≤mi∧mi≤59)<;>cases decide (0≤sec∧sec≤58)<;>rfl
theorem ZnO (y mo d h mi sec:Int):Zb6 y mo d h mi sec=some (stM y mo d h mi sec):=by
 unfold Zb6 stM
 rw [ZsY]
 simp only [ZlR,Zxd,Zaa]
 cases decide (1980≤y∧y≤2107)<;>cases decide (1≤mo∧mo≤12)<;>cases decide (1≤d∧d≤ZnZ y mo)<;>cases decide (0≤h∧h≤23)<;>cases decide (0≤mi∧mi≤59)<;>cases decide (0≤sec∧sec≤58)<;>rfl
theorem ZyB (y mo:Int):ZnZ y mo≤31:=by
 obtain ⟨n,h,hn⟩:=Zxc y mo
 unfold ZnZ;rw [h];exact hn
def stN (y mo d h mi sec:Nat):Nat:=sec/2+mi*32+h*2048+d*65536+mo*2097152+(y-1980)*33554432
theorem Zkk {y mo d h mi sec:Int} (hk:stM y mo d h mi sec=true):∃y' mo' d' h' mi' sec':Nat,y=y'∧mo=mo'∧d=d'∧h=h'∧mi=mi'∧sec=sec'∧1980≤y'∧y'≤2107∧1≤mo'∧mo'≤12∧1≤d'∧d'≤31∧h'≤23∧mi'≤59∧sec'≤58∧sec'%2=0:=by
 simp only [stM,Bool.and_eq_true,decide_eq_true_eq,beq_iff_eq] at hk
 obtain ⟨⟨a1,a2⟩,⟨b1,b2⟩,⟨c1,c2⟩,⟨d1,d2⟩,⟨e1,e2⟩,⟨f1,f2⟩,g⟩:=hk
 have:=ZyB y mo
 rw [ZaB f1] at g
 exact ⟨y.toNat,mo.toNat,d.toNat,h.toNat,mi.toNat,sec.toNat,by omega,by omega,by omega,by omega,by omega,by omega,by omega,by omega,by omega,by omega,by omega,by omega,by omega,by omega,by omega,by omega⟩
theorem Zmi {y mo d h mi sec:Nat} (hk:stM y mo d h mi sec=true):Zcx y mo d h mi sec=some ((stN y mo d h mi sec:Nat):Int):=by
 obtain ⟨y',mo',d',h',mi',sec',e1,e2,e3,e4,e5,e6,b⟩:=Zkk hk
 obtain rfl:y=y':=by omega
 obtain rfl:mo=mo':=by omega
 obtain rfl:d=d':=by omega
 obtain rfl:h=h':=by omega
 obtain rfl:mi=mi':=by omega
 obtain rfl:sec=sec':=by omega
 obtain ⟨b1,b2,b3,b4,b5,b6,b7,b8,b9,b10⟩:=b
 unfold Zcx
 rw [Zkj,hk]
 simp only [Zaa,Bool.not_true,cond_false]
 have s1:=Zfd mi 5 (by omega) (by omega)
 have s2:=Zfd h 11 (by omega) (by omega)
 have s3:=Zfd d 16 (by omega) (by omega)
 have s4:=Zfd mo 21 (by omega) (by omega)
 have s5:=Zfd (y-1980) 25 (by omega) (by omega)
 rw [show ((5:Nat):Int)=5 from rfl] at s1
 rw [show ((11:Nat):Int)=11 from rfl] at s2
 rw [show ((16:Nat):Int)=16 from rfl] at s3
 rw [show ((21:Nat):Int)=21 from rfl] at s4
 rw [show ((25:Nat):Int)=25 from rfl] at s5
 rw [Zax (by omega),show (sec:Int)/2=((sec/2:Nat):Int) by omega,Zaf (by omega) (by omega),Zaf (by omega) (by omega),show (y:Int)-1980=((y-1980:Nat):Int) by omega,s1,s2,s3,s4,s5]
 rw [ZkH _ _ (by omega) (by omega),ZmB (sec/2) mi 5 (by omega)]
 rw [ZkH _ _ (by omega) (by omega),ZmB _ h 11 (by omega)]
 rw [ZkH _ _ (by omega) (by omega),ZmB _ d 16 (by omega)]
 rw [ZkH _ _ (by omega) (by omega),ZmB _ mo 21 (by omega)]
 rw [ZkH _ _ (by omega) (by omega),ZmB _ (y-1980) 25 (by omega)]
 rfl
theorem ZqC {y mo d h mi sec:Int} (hk:stM y mo d h mi sec=false):Zcx y mo d h mi sec=some (-1):=by
 unfold Zcx
 rw [Zkj,hk];rfl
theorem Zyg {y mo d h mi sec:Nat} (hk:stM y mo d h mi sec=true):ZjC y mo d h mi sec=some ((stN y mo d h mi sec:Nat):Int):=by
 obtain ⟨y',mo',d',h',mi',sec',e1,e2,e3,e4,e5,e6,b⟩:=Zkk hk
 obtain rfl:y=y':=by omega
 obtain rfl:mo=mo':=by omega
 obtain rfl:d=d':=by omega
 obtain rfl:h=h':=by omega
 obtain rfl:mi=mi':=by omega
 obtain rfl:sec=sec':=by omega
 obtain ⟨b1,b2,b3,b4,b5,b6,b7,b8,b9,b10⟩:=b
 unfold ZjC
 rw [Zax (by omega)]
 rw [Zaf (n:=(y:Int)-1980) (by omega) (by omega)]
 rw [Zaf (n:=((y:Int)-1980)*16) (by omega) (by omega)]
 rw [Zaf (n:=((y:Int)-1980)*16+mo) (by omega) (by omega)]
 rw [Zaf (n:=(((y:Int)-1980)*16+mo)*32) (by omega) (by omega)]
 rw [Zaf (n:=(((y:Int)-1980)*16+mo)*32+d) (by omega) (by omega)]
 rw [Zaf (n:=((((y:Int)-1980)*16+mo)*32+d)*32) (by omega) (by omega)]
 rw [Zaf (n:=((((y:Int)-1980)*16+mo)*32+d)*32+h) (by omega) (by omega)]
 rw [Zaf (n:=(((((y:Int)-1980)*16+mo)*32+d)*32+h)*64) (by omega) (by omega)]
 rw [Zaf (n:=(((((y:Int)-1980)*16+mo)*32+d)*32+h)*64+mi) (by omega) (by omega)]
 rw [Zaf (n:=((((((y:Int)-1980)*16+mo)*32+d)*32+h)*64+mi)*32) (by omega) (by omega)]
 rw [Zaf (n:=(sec:Int)/2) (by omega) (by omega)]
 rw [Zaf (by omega) (by omega)]
 unfold stN
 congr 1
 omega
structure Stm where
 y:Nat
 mo:Nat
 d:Nat
 h:Nat
 mi:Nat
 sec:Nat
def stG (n:Nat):Stm:=⟨n/33554432+1980,n/2097152%16,n/65536%32,n/2048%32,n/32%64,2*(n%32)⟩
theorem Zyh (n:Nat) (hn:n<4294967296):ZjD (n:Int)=some (((stG n).y:Int),((stG n).mo:Int),((stG n).d:Int),((stG n).h:Int),((stG n).mi:Int),((stG n).sec:Int)):=by
 unfold ZjD stG
 rw [Zax (a:=(n:Int)) (by omega),Zaf (n:=(n:Int)/32) (by omega) (by omega)]
 rw [Zax (a:=(n:Int)/32) (by omega),Zaf (n:=(n:Int)/32/64) (by omega) (by omega)]
 rw [Zax (a:=(n:Int)/32/64) (by omega),Zaf (n:=(n:Int)/32/64/32) (by omega) (by omega)]
 rw [Zax (a:=(n:Int)/32/64/32) (by omega),Zaf (n:=(n:Int)/32/64/32/32) (by omega) (by omega)]
 rw [Zax (a:=(n:Int)/32/64/32/32) (by omega),Zaf (n:=(n:Int)/32/64/32/32/16) (by omega) (by omega)]
 rw [Zaf (n:=(n:Int)/32/64/32/32/16+1980) (by omega) (by omega),ZaB (by omega),ZaB (by omega),ZaB (by omega),ZaB (by omega),ZaB (by omega),Zaf (by omega) (by omega)]
 dsimp only
 congr 1
 refine Prod.ext ?_ (Prod.ext ?_ (Prod.ext ?_ (Prod.ext ?_ (Prod.ext ?_ ?_))))<;>dsimp only<;>omega
theorem ZvS (n:Nat) (hn:n<4294967296):stN (stG n).y (stG n).mo (stG n).d (stG n).h (stG n).mi (stG n).sec=n:=by
 unfold stN stG
 dsimp only
 omega
set_option maxRecDepth 100000 in
theorem Zpy {y mo d h mi sec:Nat} (hk:stM y mo d h mi sec=true):stG (stN y mo d h mi sec)=⟨y,mo,d,h,mi,sec⟩∧stN y mo d h mi sec<4294967296:=by
 obtain ⟨y',mo',d',h',mi',sec',e1,e2,e3,e4,e5,e6,b⟩:=Zkk hk
 obtain rfl:y=y':=by omega
 obtain rfl:mo=mo':=by omega
 obtain rfl:d=d':=by omega
 obtain rfl:h=h':=by omega
 obtain rfl:mi=mi':=by omega
 obtain rfl:sec=sec':=by omega
 obtain ⟨b1,b2,b3,b4,b5,b6,b7,b8,b9,b10⟩:=b
 unfold stG stN
 constructor
 ·congr 1<;>omega
 ·omega
theorem Zg4 (x k:Nat) (hk:k≤32) (hx:x<9223372036854775808):Zlp .i64 (x:Int) ((2^k-1:Nat):Int)=((x%2^k:Nat):Int):=by
 have hp:2^k≤2^32:=Nat.pow_le_pow_right (by omega) hk
 rw [Zua _ _ hx (by omega),Nat.and_two_pow_sub_one_eq_mod]
theorem ZsE (n:Nat) (hn:n<4294967296):ZdO (n:Int)=some (if stM (stG n).y (stG n).mo (stG n).d (stG n).h (stG n).mi (stG n).sec then
  (((stG n).y:Int),((stG n).mo:Int),((stG n).d:Int),((stG n).h:Int),((stG n).mi:Int),((stG n).sec:Int),true) else (0,0,0,0,0,0,false)):=by
 have m1:=Zg4 (n/2^25) 7 (by omega) (by omega)
 have m2:=Zg4 (n/2^21) 4 (by omega) (by omega)
 have m3:=Zg4 (n/2^16) 5 (by omega) (by omega)
 have m4:=Zg4 (n/2^11) 5 (by omega) (by omega)
 have m5:=Zg4 (n/2^5) 6 (by omega) (by omega)
 have m6:=Zg4 n 5 (by omega) (by omega)
 have r1:=ZfP n 25 (by omega)
 have r2:=ZfP n 21 (by omega)
 have r3:=ZfP n 16 (by omega)
 have r4:=ZfP n 11 (by omega)
 have r5:=ZfP n 5 (by omega)
 rw [show ((25:Nat):Int)=25 from rfl] at r1
 rw [show ((21:Nat):Int)=21 from rfl] at r2
 rw [show ((16:Nat):Int)=16 from rfl] at r3
 rw [show ((11:Nat):Int)=11 from rfl] at r4
 rw [show ((5:Nat):Int)=5 from rfl] at r5
 rw [show ((2^7-1:Nat):Int)=127 from rfl] at m1
 rw [show ((2^4-1:Nat):Int)=15 from rfl] at m2
 rw [show ((2^5-1:Nat):Int)=31 from rfl] at m3 m4 m6
 rw [show ((2^6-1:Nat):Int)=63 from rfl] at m5
 have f1:w64 (1980+((n/2^25%2^7:Nat):Int))=((stG n).y:Int):=by
  rw [Zaf (by omega) (by omega)];unfold stG;dsimp only;omega
 have f2:((n/2^21%2^4:Nat):Int)=((stG n).mo:Int):=rfl
 have f3:((n/2^16%2^5:Nat):Int)=((stG n).d:Int):=rfl
 have f4:((n/2^11%2^5:Nat):Int)=((stG n).h:Int):=rfl
 have f5:((n/2^5%2^6:Nat):Int)=((stG n).mi:Int):=rfl
 have f6:w64 (((n%2^5:Nat):Int)*2)=((stG n).sec:Int):=by
  rw [Zaf (by omega) (by omega)];unfold stG;dsimp only;omega
 unfold ZdO
 rw [decide_eq_false (by omega),cond_false,r1,r2,r3,r4,r5,m1,m2,m3,m4,m5,m6,f1,f2,f3,f4,f5,f6]
 cases hk:stM (stG n).y (stG n).mo (stG n).d (stG n).h (stG n).mi (stG n).sec with
 | true=>
  rw [Zmi hk,ZvS n hn]
  simp only [Zaa]
  rw [show ((n:Int) != (n:Int))=false by simp,cond_false]
  rfl
 | false=>
  rw [ZqC hk]
  simp only [Zaa]
  rw [show ((-1:Int) != (n:Int))=true by simp only [bne_iff_ne,ne_eq];omega,cond_true]
  rfl
end Ev
end
section
namespace Ev
open Go
def ZbH (b:UInt8):Str→List Str
 | []=>[[]]
 | c::s=>if c=b then []::ZbH b s else match ZbH b s with
  | p::r=>(c::p)::r
  | []=>[[c]]
theorem Zfe (b:UInt8):∀s,ZbH b s≠[]
 | []=>by simp [ZbH]
 | c::s=>by
  simp only [ZbH]
  split
  ·simp
  ·split<;>simp
def Zyp (p:Str):List Str→List Str
 | []=>[p]
 | q::r=>(p++q)::r
theorem Zvr (b:UInt8) (c:UInt8) (p s:Str) (h:c≠b):Zyp p (ZbH b (c::s))=Zyp (p++[c]) (ZbH b s):=by
 simp only [ZbH,if_neg h]
 cases hc:ZbH b s with
 | nil=>exact absurd hc (Zfe b s)
 | cons q r=>simp [Zyp]
theorem Zxe (b:UInt8) (p s:Str):Zyp p (ZbH b (b::s))=p::ZbH b s:=by
 simp [ZbH,Zyp]
theorem Zuc (l:List Str) (h:l≠[]):Zyp [] l=l:=by cases l<;>simp_all [Zyp]
theorem ZjW (b:UInt8):∀s,(ZbH b s).length≤s.length+1
 | []=>by simp [ZbH]
 | c::s=>by
  have:=ZjW b s
  simp only [ZbH]
  split
  ·simp;omega
  ·cases hc:ZbH b s with
   | nil=>simp
   | cons q r=>rw [hc] at this;simp at this ⊢;omega
theorem Zxl (x:UInt8) (c:Nat) (hc:c<256):(((x.toNat:Int))==(c:Int))=(x==UInt8.ofNat c):=by
 by_cases h:x=UInt8.ofNat c
 ·subst h
  simp [UInt8.toNat_ofNat,Nat.mod_eq_of_lt hc]
 ·have h2:¬(x.toNat:Int)=(c:Int):=by
   intro e
   apply h
   have:x.toNat=c:=by omega
   rw [←this];simp
  rw [beq_eq_false_iff_ne.2 h,beq_eq_false_iff_ne.2 h2]
theorem Zyk (s:Str) (hs:s.length≤1099511627000):∀k i f (out:List Str),i+k=s.length→f≤i→out.length≤i→
  ∃f' out',Ze7.l0 (k+1) (s,47,((s.length:Int)+1),(f:Int),(i:Int),out)=some (s,((f':Nat):Int),out')∧f'≤s.length∧out'.length≤s.length∧
   out'++[s.drop f']=out++Zyp ((s.take i).drop f) (ZbH 47 (s.drop i)):=by
 intro k
 induction k with
 | zero=>
  intro i f out hi hf ho
  rw [Ze7.l0.succ]
  simp only [Ze7.l0.step]
  rw [ZaR (by omega)]
  refine ⟨f,out,rfl,by omega,by omega,?_⟩
  have:i=s.length:=by omega
  subst this
  simp [ZbH,Zyp]
 | succ k ih=>
  intro i f out hi hf ho
  have hil:i<s.length:=by omega
  have hg:s.getD i 0=s[i]:=by simp [List.getD,hil]
  have hd:s.drop i=s[i]::s.drop (i+1):=List.drop_eq_getElem_cons hil
  rw [Ze7.l0.succ]
  simp only [Ze7.l0.step,Int.toNat_natCast]
  rw [Zab _ (Zay hil),ZaQ hil,cond_true,hg,show decide ((out.length:Int)<(s.length:Int)+1)=true from decide_eq_true (by omega)]
  simp only [Option.bind_some,cond_true]
  have hb:=Zxl s[i] 47 (by decide)
  rw [show ((47:Nat):Int)=47 from rfl] at hb
  rw [hb,hd]
  by_cases hc:s[i]=UInt8.ofNat 47
  ·rw [beq_iff_eq.2 hc,cond_true,Zab _ (ZjM (by omega)),Zab _ (ZjM hf),Zab _ (Zgb (by simp;omega)),ZdS (by omega)]
   obtain ⟨f',out',h1,h2,h3,h4⟩:=ih (i+1) (i+1) (out++[(s.take i).drop f]) (by omega) (by omega) (by simp;omega)
   refine ⟨f',out',h1,h2,h3,?_⟩
   rw [h4,hc]
   have e:(s.take (i+1)).drop (i+1)=[]:=List.drop_eq_nil_of_le (by simp;omega)
   rw [e,Zuc _ (Zfe _ _)]
   have:=Zxe 47 ((s.take i).drop f) (s.drop (i+1))
   rw [show (UInt8.ofNat 47)=47 from rfl,this]
   simp
  ·rw [beq_eq_false_iff_ne.2 hc,cond_false,ZdS (by omega)]
   obtain ⟨f',out',h1,h2,h3,h4⟩:=ih (i+1) f out (by omega) (by omega) (by omega)
   refine ⟨f',out',h1,h2,h3,?_⟩
   rw [h4,Zvr 47 s[i] _ _ hc]
   have e:(s.take (i+1)).drop f=(s.take i).drop f++[s[i]]:=by
    rw [List.take_succ_eq_append_getElem hil,List.drop_append_of_le_length (by simp;omega)]
   rw [e]
theorem Zyl (s:Str) (hs:s.length≤1099511627000):Ze7 s 47 ((s.length:Int)+1)=some (ZbH 47 s):=by
 obtain ⟨f',out',h1,h2,h3,h4⟩:=Zyk s hs s.length 0 0 [] (by omega) (by omega) (by simp)
 rw [show ((0:Nat):Int)=0 from rfl] at h1
 unfold Ze7
 rw [ZaG,h1]
 simp only [Option.bind_some,Int.toNat_natCast]
 rw [Zab _ (ZjM h2),Zab _ (Zgb (by simp;omega)),h4]
 simp only [List.take_zero,List.drop_zero,List.nil_append,List.drop_nil]
 rw [Zuc _ (Zfe _ _)]
end Ev
end
section
namespace Ev
open Go
def okN (n:Int):Bool:=decide ((97≤n∧n≤122)∨(48≤n∧n≤57)∨n=46∨n=45∨n=95)
def okC (c:UInt8):Bool:=okN c.toNat
theorem Zh6 {α:Type} (p:Prop) [Decidable p] (x y:α):(bif decide p then x else y)=if p then x else y:=by
 by_cases h:p<;>simp [h]
theorem ZyD {α:Type} (a b:Int) (x y:α):(bif a != b then x else y)=if a=b then y else x:=by
 by_cases h:a=b
 ·subst h;simp
 ·rw [show (a != b)=true from bne_iff_ne.2 h,if_neg h];rfl
theorem ZyE {α:Type} (a b:Int) (x y:α):(bif a==b then x else y)=if a=b then x else y:=by
 by_cases h:a=b
 ·subst h;simp
 ·rw [show (a==b)=false from beq_eq_false_iff_ne.2 h,if_neg h];rfl
def part (p:Str):Bool:=p.all okC&&(decide (1≤p.length)&&decide (p.length≤10)&&(!(p==[46])&&!(p==[46,46])))
theorem Zqv (n:Int):ZbA n 1 10=some (decide (1≤n)&&decide (n≤10)):=by
 unfold ZbA
 simp only [Zh6,ge_iff_le]
 by_cases h:(1:Int)≤n<;>simp [h]
theorem Zzv (n:Int):ZhH n 1 10=some (decide (1≤n)&&decide (n≤10)):=Zqv n
theorem Zv3 (s:Str) (hs:s.length≤1099511627000):∀k i,i+k=s.length→Zdl.l0 (k+1) (s,(s.length:Int),(i:Int))=some (if (s.drop i).all okC then .inl s else .inr false):=by
 intro k
 induction k with
 | zero=>
  intro i hi
  rw [Zdl.l0.succ]
  simp only [Zdl.l0.step]
  rw [ZaR (by omega),List.drop_eq_nil_of_le (by omega)]
  rfl
 | succ k ih=>
  intro i hi
  have hil:i<s.length:=by omega
  have hg:s.getD i 0=s[i]:=by simp [List.getD,hil]
  have hd:s.drop i=s[i]::s.drop (i+1):=List.drop_eq_getElem_cons hil
  rw [Zdl.l0.succ]
  simp only [Zdl.l0.step,Int.toNat_natCast]
  rw [Zab _ (Zay hil),ZaQ hil,cond_true,ZdS (by omega),ih (i+1) (by omega),hd,List.all_cons]
  have hc:okC s[i]=okN (s[i].toNat:Int):=rfl
  rw [hc]
  simp only [hg,Zh6,ZyD]
  generalize ((s[i].toNat:Nat):Int)=n
  have key:(if n<97 then if n<48 then if n=46 then some false else if n=45 then some false else some (n != 95) else if n>57 then if n=46 then some false else if n=45 then some false else some (n != 95) else some false
    else if n>122 then if n<48 then if n=46 then some false else if n=45 then some false else some (n != 95) else if n>57 then if n=46 then some false else if n=45 then some false else some (n != 95) else some false else some false)=some (!okN n):=by
   unfold okN
   repeat' split
   all_goals
    congr 1
    rw [Bool.eq_iff_iff]
    simp
    try omega
  rw [key]
  simp only [Option.bind_some]
  cases okN n<;>rfl
theorem Zv4 (s:Str) (hs:s.length≤1099511627000):Zdl s=some (part s):=by
 unfold Zdl
 have h:=Zv3 s hs s.length 0 (by omega)
 rw [show ((0:Nat):Int)=0 from rfl] at h
 rw [ZaG,h]
 simp only [List.drop_zero,Option.bind_some]
 unfold part
 cases h1:s.all okC with
 | false=>rfl
 | true=>
  simp only [if_true,Zqv,Option.bind_some,Bool.true_and]
  have e1:decide ((1:Int)≤(s.length:Int))=decide (1≤s.length):=by rw [Bool.eq_iff_iff];simp;omega
  have e2:decide ((s.length:Int)≤10)=decide (s.length≤10):=by rw [Bool.eq_iff_iff];simp;omega
  rw [e1,e2]
  cases decide (1≤s.length)<;>cases decide (s.length≤10)<;>cases (s==[46])<;>rfl
end Ev
end
section
namespace Ev
open Go
theorem ZpB (w:Str) (i1:Int) (list:List Str) (hs:w.length≤1099511627000):∀k i,i+k=w.length→Zaq.l0 (k+1) (i1,w,(i:Int),list)=some (if (w.drop i).all okC then .inl (i1,w,list) else .inr (.inr false)):=by
 intro k
 induction k with
 | zero=>
  intro i hi
  rw [Zaq.l0.succ]
  simp only [Zaq.l0.step]
  rw [ZaR (by omega),List.drop_eq_nil_of_le (by omega)]
  rfl
 | succ k ih=>
  intro i hi
  have hil:i<w.length:=by omega
  have hg:w.getD i 0=w[i]:=by simp [List.getD,hil]
  have hd:w.drop i=w[i]::w.drop (i+1):=List.drop_eq_getElem_cons hil
  have hn:∀{β:Type} (x:Option β),need (decide ((0:Int)≤(i:Int))&&decide ((i:Int)<(w.length:Int))) x=x:=fun x=>Zab _ (Zay hil)
  rw [Zaq.l0.succ]
  simp only [Zaq.l0.step,Int.toNat_natCast]
  simp only [hn]
  rw [ZaQ hil,cond_true,ZdS (by omega),ih (i+1) (by omega),hd,List.all_cons]
  have hc:okC w[i]=okN (w[i].toNat:Int):=rfl
  rw [hc]
  simp only [hg,Zh6,ZyE,ge_iff_le]
  generalize ((w[i].toNat:Nat):Int)=n
  have key:∀{β:Type} (g:Bool→Option β),((if 97≤n then if n≤122 then some (!true) else if 48≤n then if n≤57 then some (!true) else if n=46 then some (!true) else if n=45 then some (!true) else some (!(n==95)) else if n=46 then some (!true) else if n=45 then some (!true) else some (!(n==95)) else if 48≤n then if n≤57 then some (!true) else if n=46 then some (!true) else if n=45 then some (!true) else some (!(n==95)) else if n=46 then some (!true) else if n=45 then some (!true) else some (!(n==95))).bind g)=g (!okN n):=by
   intro β g
   rw [show (if 97≤n then if n≤122 then some (!true) else if 48≤n then if n≤57 then some (!true) else if n=46 then some (!true) else if n=45 then some (!true) else some (!(n==95)) else if n=46 then some (!true) else if n=45 then some (!true) else some (!(n==95)) else if 48≤n then if n≤57 then some (!true) else if n=46 then some (!true) else if n=45 then some (!true) else some (!(n==95)) else if n=46 then some (!true) else if n=45 then some (!true) else some (!(n==95)))=some (!okN n) by
    unfold okN
    repeat' split
    all_goals
     congr 1
     rw [Bool.eq_iff_iff]
     simp
     try omega]
   rfl
  rw [key]
  cases okN n<;>rfl
theorem Zyz (n:Nat):decide ((1:Int)≤(n:Int))=decide (1≤n):=by rw [Bool.eq_iff_iff];simp;omega
theorem Zxb (n:Nat):decide ((n:Int)≤10)=decide (n≤10):=by rw [Bool.eq_iff_iff];simp;omega
theorem Zuk (n:Nat):decide ((n:Int)≤4)=decide (n≤4):=by rw [Bool.eq_iff_iff];simp;omega
theorem ZpA (l:List Str) (hl:l.length≤1099511627000) (hx:∀p,p∈l→p.length≤1099511627000):∀k i,i+k=l.length→Zaq.l1 (k+1) ((i:Int),l)=some (if (l.drop i).all part then .inl l else .inr false):=by
 intro k
 induction k with
 | zero=>
  intro i hi
  rw [Zaq.l1.succ]
  simp only [Zaq.l1.step]
  rw [ZaR (by omega),List.drop_eq_nil_of_le (by omega)]
  rfl
 | succ k ih=>
  intro i hi
  have hil:i<l.length:=by omega
  have hg:l.getD i []=l[i]:=by simp [List.getD,hil]
  have hd:l.drop i=l[i]::l.drop (i+1):=List.drop_eq_getElem_cons hil
  have hm:=hx l[i] (List.getElem_mem hil)
  rw [Zaq.l1.succ]
  simp only [Zaq.l1.step,Int.toNat_natCast]
  rw [Zab _ (Zay hil),ZaQ hil,cond_true,hg,ZaG]
  have h0:=ZpB l[i] (i:Int) l hm l[i].length 0 (by omega)
  rw [show ((0:Nat):Int)=0 from rfl] at h0
  rw [h0,List.drop_zero,hd,List.all_cons]
  unfold part
  cases h1:l[i].all okC with
  | false=>rfl
  | true=>
   simp only [if_true,Option.bind_some,Zzv,Zyz,Zxb,Bool.true_and]
   have hn:=ih (i+1) (by omega)
   rw [ZdS (by omega),hn]
   unfold part
   cases decide (1≤l[i].length)<;>cases decide (l[i].length≤10)<;>cases (l[i]==[46])<;>cases (l[i]==[46,46])<;>rfl
theorem Zjc (b:UInt8):∀(s:Str) (p:Str),p∈ZbH b s→p.length≤s.length
 | [],p,h=>by simp [ZbH] at h;subst h;simp
 | c::s,p,h=>by
  have ih:=Zjc b s
  simp only [ZbH] at h
  split at h
  ·cases h with
   | head=>simp
   | tail _ h=>have:=ih p h;simp;omega
  ·cases hc:ZbH b s with
   | nil=>rw [hc] at h;simp at h;subst h;simp
   | cons q r=>
    rw [hc] at h
    cases h with
    | head=>have:=ih q (by rw [hc];simp);simp;omega
    | tail _ h=>have:=ih p (by rw [hc];exact List.mem_cons_of_mem _ h);simp;omega
def ZcG (s:Str):Bool:=(ZbH 47 s).all part&&decide ((ZbH 47 s).length≤4)
theorem Zjq (s:Str) (hs:s.length≤1048576):Zaq s=some (ZcG s):=by
 unfold Zaq
 rw [Zaf (by omega) (by omega),Zyl s (by omega)]
 simp only [Option.bind_some]
 have hl:=ZjW 47 s
 have h:=ZpA (ZbH 47 s) (by omega) (fun p hp=>by have:=Zjc 47 s p hp;omega) (ZbH 47 s).length 0 (by omega)
 rw [show ((0:Nat):Int)=0 from rfl] at h
 rw [ZaG,h,List.drop_zero]
 unfold ZcG
 cases h1:(ZbH 47 s).all part with
 | false=>rfl
 | true=>simp only [if_true,Option.bind_some,Zuk,Bool.true_and]
end Ev
end
section
namespace Ev
open Go
theorem ZkM {α:Type} {p q:α→Bool}:∀{l:List α},(∀x,x∈l→p x=q x)→l.find? p=l.find? q
 | [],_=>rfl
 | x::l,h=>by
  rw [List.find?_cons,List.find?_cons,h x (by simp),ZkM fun y hy=>h y (by simp [hy])]
theorem ZiR (p:UInt8→Bool):∀(s:Str) (k:Nat),((List.range' k s.length).find? fun i=>p (s.getD (i-k) 0))=(s.findIdx? p).map (· + k)
 | [],k=>by simp
 | c::s,k=>by
  have ih:=ZiR p s (k+1)
  rw [List.length_cons,List.range'_succ,List.find?_cons,Nat.sub_self,List.findIdx?_cons]
  cases h:p c with
  | true=>simp [h]
  | false=>
   simp only [List.getD_cons_zero,h]
   have e:((List.range' (k+1) s.length).find? fun i=>p ((c::s).getD (i-k) 0))=((List.range' (k+1) s.length).find? fun i=>p (s.getD (i-(k+1)) 0)):=by
    apply ZkM
    intro i hi
    rw [List.mem_range'] at hi
    obtain ⟨j,hj,rfl⟩:=hi
    rw [show k+1+1*j-k=j+1 by omega,show k+1+1*j-(k+1)=j by omega,List.getD_cons_succ]
   rw [e,ih]
   cases s.findIdx? p<;>simp;omega
theorem Zzw (s:Str):idxB s 47=match s.findIdx? (· == 47) with | some i=>(i:Int) | none=>-1:=by
 unfold idxB firstIdx
 have h:=ZiR (· == 47) s 0
 have e:((List.range (⟨s.toArray⟩:ByteArray).size).find? fun i=>(⟨s.toArray⟩:ByteArray)[i]! == (47:Int).toNat.toUInt8)=s.findIdx? (· == 47):=by
  rw [List.range_eq_range']
  have hsz:(⟨s.toArray⟩:ByteArray).size=s.length:=by simp [ByteArray.size]
  rw [hsz]
  rw [show (s.findIdx? (· == 47))=(s.findIdx? (· == 47)).map (· + 0) by simp,←h]
  apply ZkM
  intro i hi
  rw [List.mem_range'] at hi
  obtain ⟨j,hj,rfl⟩:=hi
  have hj':j<s.length:=hj
  rw [show 0+1*j=j by omega]
  have:(⟨s.toArray⟩:ByteArray)[j]! = s.getD j 0:=by
   have hj2:j<(⟨s.toArray⟩:ByteArray).size:=by rw [hsz];exact hj'
   rw [getElem!_pos (⟨s.toArray⟩:ByteArray) j hj2]
   show s.toArray[j]=s.getD j 0
   simp [List.getD,hj']
  rw [this];rfl
 rw [e]
 cases s.findIdx? (· == 47)<;>rfl
end Ev
end
section
namespace Ev
open Go
theorem ZkU:∀{s:Str},s.findIdx? (· == 47)=none→ZbH 47 s=[s]
 | [],_=>rfl
 | c::s,h=>by
  rw [List.findIdx?_cons] at h
  cases hc:(c==(47:UInt8)) with
  | true=>rw [hc] at h;simp at h
  | false=>
   rw [hc] at h
   have ih:=ZkU (s:=s) (by simpa using h)
   simp only [ZbH,if_neg (beq_eq_false_iff_ne.1 hc),ih]
theorem ZkT:∀{s:Str} {m:Nat},s.findIdx? (· == 47)=some m→m<s.length∧ZbH 47 s=s.take m::ZbH 47 (s.drop (m+1))
 | [],m,h=>by simp at h
 | c::s,m,h=>by
  rw [List.findIdx?_cons] at h
  cases hc:(c==(47:UInt8)) with
  | true=>
   rw [hc] at h
   simp at h;subst h
   have:=beq_iff_eq.1 hc
   subst this
   exact ⟨by simp,by simp [ZbH]⟩
  | false=>
   rw [hc] at h
   simp only [cond_false,Bool.false_eq_true,if_false,Option.map_eq_some_iff] at h
   obtain ⟨m',h',rfl⟩:=h
   obtain ⟨a,b⟩:=ZkT h'
   refine ⟨by simp;omega,?_⟩
   simp only [ZbH,if_neg (beq_eq_false_iff_ne.1 hc),b,List.take_succ_cons,List.drop_succ_cons]
theorem Znp:∀(s:Str) (n:Int),s.foldl (fun (n:Int) x=>if x==47 then n+1 else n) n=n+((ZbH 47 s).length-1)
 | [],n=>by simp [ZbH]
 | c::s,n=>by
  rw [List.foldl_cons,Znp s]
  have hne:=Zfe 47 s
  have hpos:1≤(ZbH 47 s).length:=by cases h:ZbH 47 s with
   | nil=>exact absurd h hne
   | cons _ _=>simp
  by_cases hc:c=47
  ·subst hc
   simp [ZbH];omega
  ·rw [beq_eq_false_iff_ne.2 hc]
   simp only [ZbH,if_neg hc]
   cases h:ZbH 47 s with
   | nil=>exact absurd h hne
   | cons q r=>simp
theorem ZzC (s:Str):cntB s 47=(ZbH 47 s).length-1:=by
 unfold cntB
 rw [Go.Lib.foldl_data]
 have:=Znp s 0
 rw [Int.zero_add] at this
 exact this
theorem ZwP (s:Str):Zgt s=some (match s.findIdx? (· == 47) with | some i=>(i:Int) | none=>-1):=by
 unfold Zgt Ze8 ZcO Zcw
 simp only [Option.bind_some,Zzw]
 by_cases h:([47]:Str)=s
 ·subst h;rfl
 ·rw [beq_eq_false_iff_ne.2 h];rfl
theorem ZrP:∀k i (s2:Str) (done:List Str),s2.length≤1048576→(ZbH 47 s2).length=k+1→done.length=i→i+k≤2000000→
  ∃s3,Zbi.l0 (k+1) (s2,((i+k:Nat):Int),(i:Int),done++List.replicate (k+1) ([]:Str))=some (s3,((i+k:Nat):Int),done++((ZbH 47 s2).dropLast++[[]]))∧(ZbH 47 s2).getLast? = some s3:=by
 intro k
 induction k with
 | zero=>
  intro i s2 done hs hc hd hi
  rw [Zbi.l0.succ]
  simp only [Zbi.l0.step]
  rw [ZaR (by omega),cond_false]
  cases h:ZbH 47 s2 with
  | nil=>rw [h] at hc;simp at hc
  | cons q r=>
   rw [h] at hc
   have hr:r=[]:=List.eq_nil_of_length_eq_zero (by simpa using hc)
   subst hr
   have hq:q=s2:=by
    cases hf:s2.findIdx? (· == 47) with
    | none=>rw [ZkU hf] at h;simpa using h.symm
    | some m=>
     rw [(ZkT hf).2] at h
     have:=Zfe 47 (s2.drop (m+1))
     simp at h;exact absurd h.2 this
   subst hq
   exact ⟨q,by simp,by simp⟩
 | succ k ih=>
  intro i s2 done hs hc hd hi
  rw [Zbi.l0.succ]
  simp only [Zbi.l0.step,ZwP,Option.bind_some]
  rw [ZaQ (by omega),cond_true]
  cases hf:s2.findIdx? (· == 47) with
  | none=>rw [ZkU hf] at hc;simp at hc
  | some m=>
   obtain ⟨hm,hcut⟩:=ZkT hf
   rw [hcut] at hc ⊢
   have hc':(ZbH 47 (s2.drop (m+1))).length=k+1:=by simpa using hc
   simp only []
   rw [show decide ((m:Int)<0)=false from decide_eq_false (by omega),cond_false,Int.add_zero,Zaf (n:=(m:Int)) (by omega) (by omega),Zab _ (ZjM (by omega)),Int.toNat_natCast,
    ZdS (by omega),Zab _ (ZjM (by omega)),Zab _ (Zay (by simp;omega)),ZdS (by omega),Int.toNat_natCast,Int.toNat_natCast]
   have e:(done++List.replicate (k+1+1) ([]:Str)).set i (s2.take m)=(done++[s2.take m])++List.replicate (k+1) ([]:Str):=by
    rw [List.set_append,if_neg (by omega),hd,Nat.sub_self,List.replicate_succ,List.set_cons_zero];simp
   rw [e]
   obtain ⟨s3,h1,h2⟩:=ih (i+1) (s2.drop (m+1)) (done++[s2.take m]) (by simp;omega) hc' (by simp [hd]) (by omega)
   refine ⟨s3,?_,?_⟩
   ·rw [show i+(k+1)=i+1+k by omega,h1]
    cases hq:ZbH 47 (s2.drop (m+1)) with
    | nil=>exact absurd hq (Zfe _ _)
    | cons a b=>simp
   ·cases hq:ZbH 47 (s2.drop (m+1)) with
    | nil=>exact absurd hq (Zfe _ _)
    | cons a b=>rw [hq] at h2;rw [List.getLast?_cons_cons];exact h2
theorem Zwn {a b:Int} (h:a≤b):Zqo a b=a:=by unfold Zqo;rw [if_neg (by omega)]
theorem ZrQ (s:Str) (hs:s.length≤1048576):Zbi s=some (ZbH 47 s):=by
 have hlen:=ZjW 47 s
 have hpos:1≤(ZbH 47 s).length:=by cases h:ZbH 47 s with
  | nil=>exact absurd h (Zfe 47 s)
  | cons _ _=>simp
 obtain ⟨k,hk⟩:∃k,(ZbH 47 s).length=k+1:=⟨(ZbH 47 s).length-1,by omega⟩
 unfold Zbi Zg6 ZdY
 simp only [Option.bind_some,ZzC,hk]
 rw [show (((k+1:Nat):Int)-1)=(k:Int) by omega,Zaf (n:=(k:Int)+1) (by omega) (by omega),Zaf (n:=(s.length:Int)+1) (by omega) (by omega),Zwn (by omega),
  Zaf (n:=(k:Int)+1-1) (by omega) (by omega),show ((k:Int)+1).toNat=k+1 by omega,show ((k:Int)+1-1)=(k:Int) by omega,ZaG]
 rw [Zab _ (by simp;exact ⟨by omega,Zgb (by omega)⟩)]
 obtain ⟨s3,h1,h2⟩:=ZrP k 0 s [] hs hk rfl (by omega)
 simp only [Nat.zero_add,List.nil_append] at h1
 rw [show ((0:Nat):Int)=0 from rfl] at h1
 rw [h1]
 simp only [Option.bind_some,Int.toNat_natCast]
 have hdl:(ZbH 47 s).dropLast.length=k:=by simp [hk]
 have hset:((ZbH 47 s).dropLast++[([]:Str)]).set k s3=ZbH 47 s:=by
  rw [List.set_append,if_neg (by omega),hdl,Nat.sub_self,List.set_cons_zero]
  obtain ⟨ys,hy⟩:=List.getLast?_eq_some_iff.1 h2
  rw [hy];simp
 have hn:w64 ((k:Int)+1)=((k+1:Nat):Int):=ZdS (by omega)
 rw [Zab _ (Zay (by simp;omega))]
 simp only [hset,hn,Int.toNat_natCast]
 rw [Zab _ (ZjM (by omega)),List.drop_zero,List.take_of_length_le (by omega)]
theorem ZvU (s:Str) (hs:s.length≤1048576):Zgl s=some (ZbH 47 s):=by
 unfold Zgl
 rw [ZrQ s hs];rfl
theorem ZpW (l:List Str) (hl:l.length≤1099511627000) (hx:∀p,p∈l→p.length≤1099511627000):∀k i,i+k=l.length→ZaO.l0 (k+1) (l,l,(l.length:Int),(i:Int))=some (if (l.drop i).all part then .inl l else .inr false):=by
 intro k
 induction k with
 | zero=>
  intro i hi
  rw [ZaO.l0.succ]
  simp only [ZaO.l0.step]
  rw [ZaR (by omega),List.drop_eq_nil_of_le (by omega)]
  rfl
 | succ k ih=>
  intro i hi
  have hil:i<l.length:=by omega
  have hg:l.getD i []=l[i]:=by simp [List.getD,hil]
  have hd:l.drop i=l[i]::l.drop (i+1):=List.drop_eq_getElem_cons hil
  have hm:=hx l[i] (List.getElem_mem hil)
  rw [ZaO.l0.succ]
  simp only [ZaO.l0.step,Int.toNat_natCast]
  rw [Zab _ (Zay hil),ZaQ hil,cond_true,hg,Zv4 _ hm,hd,List.all_cons,ZdS (by omega)]
  simp only [Option.bind_some]
  cases part l[i] with
  | false=>rfl
  | true=>simp only [Bool.not_true,cond_false,Bool.true_and];exact ih (i+1) (by omega)
theorem ZjL (s:Str) (hs:s.length≤1048576):ZaO s=some (ZcG s):=by
 unfold ZaO
 rw [ZvU s hs]
 simp only [Option.bind_some]
 have hl:=ZjW 47 s
 have h:=ZpW (ZbH 47 s) (by omega) (fun p hp=>by have:=Zjc 47 s p hp;omega) (ZbH 47 s).length 0 (by omega)
 rw [show ((0:Nat):Int)=0 from rfl] at h
 rw [ZaG,h,List.drop_zero]
 unfold ZcG
 cases h1:(ZbH 47 s).all part with
 | false=>rfl
 | true=>simp only [if_true,Option.bind_some,Zuk,Bool.true_and]
end Ev
end
section
namespace Ev
open Go
theorem Zzt {n m k:Nat} (hn:n<256^k) (hm:m<256^k) (h:leB n k=leB m k):n=m:=by
 have:=congrArg leV h
 rwa [ZsW,ZsW,Nat.mod_eq_of_lt hn,Nat.mod_eq_of_lt hm] at this
theorem ZgL (s:Str) (a k:Nat) (h:a+k≤s.length):(s.drop a).take k=leB (leN s a k) k:=by
 have hl:((s.drop a).take k).length=k:=by rw [List.length_take,List.length_drop];omega
 have:=ZwA ((s.drop a).take k)
 rw [hl] at this
 exact this.symm
theorem Zfa (s:Str) (a k:Nat):s.take (a+k)=s.take a++(s.drop a).take k:=by
 rw [List.take_add]
def ZrI (how stamp crc packed long name:Nat):Str:=
 leB 67324752 4++leB 20 2++leB 0 2++leB how 2++leB stamp 4++leB crc 4++leB packed 4++leB long 4++leB name 2++leB 0 2
theorem take30 (s:Str) (h:30≤s.length):s.take 30=leB (leN s 0 4) 4++leB (leN s 4 2) 2++leB (leN s 6 2) 2++leB (leN s 8 2) 2++leB (leN s 10 4) 4++leB (leN s 14 4) 4++leB (leN s 18 4) 4++leB (leN s 22 4) 4++leB (leN s 26 2) 2++leB (leN s 28 2) 2:=by
 rw [←ZgL s 0 4 (by omega),←ZgL s 4 2 (by omega),←ZgL s 6 2 (by omega),←ZgL s 8 2 (by omega),←ZgL s 10 4 (by omega),←ZgL s 14 4 (by omega),←ZgL s 18 4 (by omega),←ZgL s 22 4 (by omega),←ZgL s 26 2 (by omega),←ZgL s 28 2 (by omega)]
 rw [show s.take 30=s.take (28+2) from rfl,Zfa s 28 2,show s.take 28=s.take (26+2) from rfl,Zfa s 26 2,show s.take 26=s.take (22+4) from rfl,Zfa s 22 4,show s.take 22=s.take (18+4) from rfl,Zfa s 18 4,
  show s.take 18=s.take (14+4) from rfl,Zfa s 14 4,show s.take 14=s.take (10+4) from rfl,Zfa s 10 4,show s.take 10=s.take (8+2) from rfl,Zfa s 8 2,show s.take 8=s.take (6+2) from rfl,Zfa s 6 2,
  show s.take 6=s.take (4+2) from rfl,Zfa s 4 2,show s.take 4=s.take (0+4) from rfl,Zfa s 0 4,List.take_zero,List.nil_append]
theorem Zhw {a b c d:Str} (hl:a.length=c.length):a++b=c++d↔a=c∧b=d:=by
 constructor
 ·intro h;exact List.append_inj h hl
 ·rintro ⟨rfl,rfl⟩;rfl
theorem ZpZ (s:Str) (h:30≤s.length) (how stamp crc packed long name:Nat) (h1:how<65536) (h2:stamp<4294967296) (h3:crc<4294967296) (h4:packed<4294967296) (h5:long<4294967296) (h6:name<65536) :
  ZrI how stamp crc packed long name=s.take 30↔leN s 0 4=67324752∧leN s 4 2=20∧leN s 6 2=0∧leN s 8 2=how∧leN s 10 4=stamp∧leN s 14 4=crc∧leN s 18 4=packed∧leN s 22 4=long∧leN s 26 2=name∧leN s 28 2=0:=by
 have two:∀a,leN s a 2<256^2:=fun a=>Zg1 s a 2
 have four:∀a,leN s a 4<256^4:=fun a=>Zg1 s a 4
 have inj:∀{n m k:Nat},n<256^k→m<256^k→(leB n k=leB m k↔m=n):=fun hn hm=>⟨fun h=>(Zzt hn hm h).symm,fun h=>by rw [h]⟩
 rw [take30 s h]
 unfold ZrI
 rw [Zhw (by simp only [List.length_append,ZaN]),Zhw (by simp only [List.length_append,ZaN]),Zhw (by simp only [List.length_append,ZaN]),Zhw (by simp only [List.length_append,ZaN]),Zhw (by simp only [List.length_append,ZaN]),
  Zhw (by simp only [List.length_append,ZaN]),Zhw (by simp only [List.length_append,ZaN]),Zhw (by simp only [List.length_append,ZaN]),Zhw (by simp only [List.length_append,ZaN])]
 rw [inj (by omega) (four 0),inj (by omega) (two 4),inj (by omega) (two 6),inj (by omega) (two 8),inj (by omega) (four 10),inj (by omega) (four 14),inj (by omega) (four 18),inj (by omega) (four 22),inj (by omega) (two 26),inj (by omega) (two 28)]
 simp only [and_assoc]
theorem ZkS (name:Str) (hn:name.length≤1048576) (y mo d h mi sec:Int) (text:Str):ZbG name y mo d h mi sec text=some (ZcG name&&(stM y mo d h mi sec&&decide (text.length≤300))):=by
 unfold ZbG
 rw [ZjL name hn]
 simp only [Zaa]
 rw [Zkj]
 simp only [Zaa]
 have e:decide ((text.length:Int)≤300)=decide (text.length≤300):=by
  by_cases h:text.length≤300
  ·rw [decide_eq_true h,decide_eq_true (by omega)]
  ·rw [decide_eq_false h,decide_eq_false (by omega)]
 rw [e]
 cases ZcG name<;>cases stM y mo d h mi sec<;>rfl
theorem ZgE (name:Str) (hn:name.length≤1048576) (y mo d h mi sec:Int) (text:Str):ZaM name y mo d h mi sec text=some (ZcG name&&(stM y mo d h mi sec&&decide (text.length≤300))):=by
 unfold ZaM
 rw [Zjq name hn]
 simp only [Zaa]
 rw [ZnO]
 simp only [Zaa]
 have e:decide ((text.length:Int)≤300)=decide (text.length≤300):=by
  by_cases h:text.length≤300
  ·rw [decide_eq_true h,decide_eq_true (by omega)]
  ·rw [decide_eq_false h,decide_eq_false (by omega)]
 rw [e]
 cases ZcG name<;>cases stM y mo d h mi sec<;>rfl
theorem Zm0 (name:Str) (hn:name.length≤1048576) {y mo d h mi sec:Nat} (hk:stM y mo d h mi sec=true) (text:Str) (ht:text.length≤1048576) (how packed:Nat) (hh:how≤65535) (hp:packed≤4294967295) :
  Zej name y mo d h mi sec text how packed=some (ZrI how (stN y mo d h mi sec) (Zqq text) packed text.length name.length):=by
 have hst:=(Zpy hk).2
 have hcr:=Zjd text
 have n20:=ZcF 20 2 (by omega) (by omega)
 have n0:=ZcF 0 2 (by omega) (by omega)
 have n1:=ZcF how 2 (by omega) (by omega)
 have n2:=ZcF (stN y mo d h mi sec) 4 (by omega) (by omega)
 have n3:=ZcF (Zqq text) 4 (by omega) (by omega)
 have n4:=ZcF packed 4 (by omega) (by omega)
 have n5:=ZcF text.length 4 (by omega) (by omega)
 have n6:=ZcF name.length 2 (by omega) (by omega)
 rw [show ((20:Nat):Int)=20 from rfl,show ((2:Nat):Int)=2 from rfl] at n20
 rw [show ((0:Nat):Int)=0 from rfl,show ((2:Nat):Int)=2 from rfl] at n0
 rw [show ((2:Nat):Int)=2 from rfl] at n1 n6
 rw [show ((4:Nat):Int)=4 from rfl] at n2 n3 n4 n5
 have L:∀n k,(leB n k).length=k:=ZaN
 have mark:([80,75,3,4]:Str)=leB 67324752 4:=by decide
 unfold Zej
 rw [n20,n0,mark]
 simp only [Zaa]
 rw [Zad (by simp only [List.length_append,L];omega),Zad (by simp only [List.length_append,L];omega),n1]
 simp only [Zaa]
 rw [Zad (by simp only [List.length_append,L];omega),Zmi hk]
 simp only [Zaa]
 rw [n2]
 simp only [Zaa]
 rw [Zad (by simp only [List.length_append,L];omega),crc_eq text (by omega)]
 simp only [Zaa]
 rw [n3]
 simp only [Zaa]
 rw [Zad (by simp only [List.length_append,L];omega),n4]
 simp only [Zaa]
 rw [Zad (by simp only [List.length_append,L];omega),n5]
 simp only [Zaa]
 rw [Zad (by simp only [List.length_append,L];omega),n6]
 simp only [Zaa]
 rw [Zad (by simp only [List.length_append,L];omega),Zad (by simp only [List.length_append,L];omega)]
 rfl
end Ev
end
section
namespace Ev
open Go
abbrev Fil:=Str×Int×Int×Int×Int×Int×Int×Str
def ZhB (s:Str):Str×Int×Bool:=if 700<s.length then ([],0,false) else Zyq (Zu4 s)
theorem ZyR:∀(f:Nat) (l:List Bool) (out:List Int) {l':List Bool} {o:List Int},mGo f l out=some (l',o)→o.length≤300
 | 0,l,out,l',o,h=>by cases h
 | f+1,l,out,l',o,h=>by
  rw [mGo] at h
  cases hp:ZnU l out with
  | none=>rw [hp] at h;cases h
  | some p=>
   obtain ⟨b,l1,o1⟩:=p
   rw [hp] at h
   simp only [Option.bind_some] at h
   by_cases h3:300<o1.length
   ·rw [if_pos h3] at h;cases h
   ·rw [if_neg h3] at h
    cases b with
    | true=>
     obtain ⟨_,rfl⟩:=Prod.mk.inj (Option.some.inj h)
     omega
    | false=>exact ZyR f l1 o1 h
theorem ZrT (s:Str):(ZhB s).1.length≤300:=by
 unfold ZhB
 split
 ·simp
 ·unfold Zu4
  cases hg:mGo (8*s.length+1) (Zdx s) [] with
  | none=>simp [Zyq]
  | some p=>
   obtain ⟨l,o⟩:=p
   have:=ZyR _ _ _ hg
   simp only [Option.bind_some]
   cases Zed (some l) with
   | none=>simp [Zyq]
   | some l'=>simp [Zyq,ZbF];exact this
def Zxz (how:Nat) (body:Str):Option Str:=
 if how=0 then some body else if how=8 then (if (ZhB body).2.2=true∧(ZhB body).2.1=(body.length:Int) then some (ZhB body).1 else none) else none
def ZsU (s t:Str):Prop:=ZcG ((s.drop 30).take (leN s 26 2))=true∧stM (stG (leN s 10 4)).y (stG (leN s 10 4)).mo (stG (leN s 10 4)).d (stG (leN s 10 4)).h (stG (leN s 10 4)).mi (stG (leN s 10 4)).sec=true∧t.length≤300∧
    leN s 0 4=67324752∧leN s 4 2=20∧leN s 6 2=0∧leN s 28 2=0∧leN s 14 4=Zqq t∧leN s 22 4=t.length
instance (s t:Str):Decidable (ZsU s t):=by unfold ZsU;infer_instance
def ZhV (s:Str):Option (Fil×Nat):=
 if s.length<30 then none else if s.length<30+leN s 26 2+leN s 18 4 then none else
  match Zxz (leN s 8 2) ((s.drop (30+leN s 26 2)).take (leN s 18 4)) with
  | none=>none
  | some t=>if ZsU s t then
    some (((s.drop 30).take (leN s 26 2),((stG (leN s 10 4)).y:Int),((stG (leN s 10 4)).mo:Int),((stG (leN s 10 4)).d:Int),((stG (leN s 10 4)).h:Int),((stG (leN s 10 4)).mi:Int),((stG (leN s 10 4)).sec:Int),t),30+leN s 26 2+leN s 18 4)
   else none
def ZyT:Option (Fil×Nat)→Str×Int×Int×Int×Int×Int×Int×Str×Int×Bool
 | none=>([],0,0,0,0,0,0,[],0,false)
 | some (e,n)=>(e.1,e.2.1,e.2.2.1,e.2.2.2.1,e.2.2.2.2.1,e.2.2.2.2.2.1,e.2.2.2.2.2.2.1,e.2.2.2.2.2.2.2,(n:Int),true)
theorem Zvj (s:Str):Zbq s=some (ZhB s):=Zs8 s
theorem ZnQ (s:Str):Zbx s=some (ZhB s):=Zmk s
theorem ZsG {P:Prop} [Decidable P] (h:¬P):some true=some (!decide P):=by rw [decide_eq_false h];rfl
theorem Zze {P:Prop} [Decidable P] (h:P):some false=some (!decide P):=by rw [decide_eq_true h];rfl
theorem ZyF (s:Str) (h30:30≤s.length) (hs:s.length≤1048576) (hbig:30+leN s 26 2+leN s 18 4≤s.length) (y mo d h mi sec:Int) (t:Str) (ht:t.length≤1048576)
  (hg:(y,mo,d,h,mi,sec)=if stM (stG (leN s 10 4)).y (stG (leN s 10 4)).mo (stG (leN s 10 4)).d (stG (leN s 10 4)).h (stG (leN s 10 4)).mi (stG (leN s 10 4)).sec then
   (((stG (leN s 10 4)).y:Int),((stG (leN s 10 4)).mo:Int),((stG (leN s 10 4)).d:Int),((stG (leN s 10 4)).h:Int),((stG (leN s 10 4)).mi:Int),((stG (leN s 10 4)).sec:Int)) else (0,0,0,0,0,0)) :
  ((ZbG ((s.drop 30).take (leN s 26 2)) y mo d h mi sec t).bind fun EntryOk=>(bif (!EntryOk) then (some true) else
   ((Zej ((s.drop 30).take (leN s 26 2)) y mo d h mi sec t (leN s 8 2:Int) (leN s 18 4:Int)).bind fun headOf_=>(need (decide (0≤(30:Int))&&decide ((30:Int)≤s.length)) (some (!(headOf_==(s.take 30)))))))) =
  some (!decide (ZsU s t)):=by
 have two:∀a,leN s a 2<256^2:=fun a=>Zg1 s a 2
 have four:∀a,leN s a 4<256^4:=fun a=>Zg1 s a 4
 have t26:=two 26
 have t8:=two 8
 have f18:=four 18
 have f10:=four 10
 have hnl:((s.drop 30).take (leN s 26 2)).length=leN s 26 2:=by rw [List.length_take,List.length_drop];omega
 rw [ZkS _ (by omega)]
 simp only [Zaa]
 cases hst:stM (stG (leN s 10 4)).y (stG (leN s 10 4)).mo (stG (leN s 10 4)).d (stG (leN s 10 4)).h (stG (leN s 10 4)).mi (stG (leN s 10 4)).sec with
 | false=>
  rw [hst] at hg
  obtain ⟨rfl,hg'⟩:=Prod.mk.inj hg
  have:stM 0 mo d h mi sec=false:=by unfold stM;rw [decide_eq_false (by omega)];rfl
  rw [this,Bool.false_and,Bool.and_false,Bool.not_false,cond_true]
  exact ZsG (P:=ZsU s t) (fun q=>absurd q.2.1 (by rw [hst];simp))
 | true=>
  rw [hst] at hg
  simp only [if_true] at hg
  obtain ⟨g1,hg1⟩:=Prod.mk.inj hg
  obtain ⟨g2,hg2⟩:=Prod.mk.inj hg1
  obtain ⟨g3,hg3⟩:=Prod.mk.inj hg2
  obtain ⟨g4,hg4⟩:=Prod.mk.inj hg3
  obtain ⟨g5,g6⟩:=Prod.mk.inj hg4
  clear hg hg1 hg2 hg3 hg4
  subst g1 g2 g3 g4 g5 g6
  rw [hst,Bool.true_and]
  by_cases hA:ZcG ((s.drop 30).take (leN s 26 2))=true∧t.length≤300
  ·rw [hA.1,decide_eq_true hA.2]
   simp only [Bool.and_self,Bool.not_true,cond_false]
   rw [Zm0 _ (by omega) hst t ht _ _ (by omega) (by omega),ZvS _ (by omega)]
   simp only [Zaa]
   rw [Zab _ (by simp;omega)]
   have hi:=ZpZ s h30 (leN s 8 2) (leN s 10 4) (Zqq t) (leN s 18 4) t.length (leN s 26 2) (by omega) (by omega) (Zjd t) (by omega) (by omega) (by omega)
   rw [hnl]
   by_cases he:ZrI (leN s 8 2) (leN s 10 4) (Zqq t) (leN s 18 4) t.length (leN s 26 2)=s.take 30
   ·obtain ⟨q1,q2,q3,q4,q5,q6,q7,q8,q9,q10⟩:=hi.1 he
    rw [he,show (s.take 30==s.take 30)=true from beq_self_eq_true _]
    exact Zze (P:=ZsU s t) ⟨hA.1,hst,hA.2,q1,q2,q3,q10,q6,q8⟩
   ·rw [beq_false_of_ne he]
    refine ZsG (P:=ZsU s t) ?_
    rintro ⟨_,_,_,q1,q2,q3,q10,q6,q8⟩
    exact he (hi.2 ⟨q1,q2,q3,rfl,rfl,q6,rfl,q8,rfl,q10⟩)
  ·have:(ZcG ((s.drop 30).take (leN s 26 2))&&decide (t.length≤300))=false:=by
    cases hn:ZcG ((s.drop 30).take (leN s 26 2)) with
    | false=>rfl
    | true=>rw [decide_eq_false (fun q=>hA ⟨hn,q⟩)];rfl
   rw [this,Bool.not_false,cond_true]
   exact ZsG (P:=ZsU s t) (fun q=>hA ⟨q.1,q.2.2.1⟩)
end Ev
end
section
namespace Ev
open Go
set_option maxRecDepth 100000 in
theorem ZsR (s:Str) (hs:s.length≤1048576):ZdR s=some (ZyT (ZhV s)):=by
 unfold ZdR ZhV
 by_cases h30:s.length<30
 ·rw [if_pos h30,decide_eq_true (by omega),cond_true];rfl
 rw [if_neg h30,decide_eq_false (by omega),cond_false]
 have two:∀a,leN s a 2<256^2:=fun a=>Zg1 s a 2
 have four:∀a,leN s a 4<256^4:=fun a=>Zg1 s a 4
 have t26:=two 26
 have t8:=two 8
 have f18:=four 18
 have f10:=four 10
 have n8:=Zf2 s 8 2 (by omega) (by omega) (by omega) (by omega)
 have n18:=Zf2 s 18 4 (by omega) (by omega) (by omega) (by omega)
 have n26:=Zf2 s 26 2 (by omega) (by omega) (by omega) (by omega)
 have n10:=Zf2 s 10 4 (by omega) (by omega) (by omega) (by omega)
 rw [show ((8:Nat):Int)=8 from rfl,show ((2:Nat):Int)=2 from rfl] at n8
 rw [show ((18:Nat):Int)=18 from rfl,show ((4:Nat):Int)=4 from rfl] at n18
 rw [show ((26:Nat):Int)=26 from rfl,show ((2:Nat):Int)=2 from rfl] at n26
 rw [show ((10:Nat):Int)=10 from rfl,show ((4:Nat):Int)=4 from rfl] at n10
 have hl:(s.drop 30).length=s.length-30:=List.length_drop
 rw [n8]
 simp only [Zaa]
 rw [n18]
 simp only [Zaa]
 rw [n26]
 simp only [Zaa]
 rw [Zab _ (by simp;omega),hl]
 by_cases hbig:s.length<30+leN s 26 2+leN s 18 4
 ·rw [if_pos hbig]
  have hc:(bif decide (((s.length-30:Nat):Int)<((leN s 26 2:Nat):Int)) then some true else some (decide (w64 (((s.length-30:Nat):Int)-((leN s 26 2:Nat):Int))<((leN s 18 4:Nat):Int))))=some true:=by
   by_cases c:s.length-30<leN s 26 2
   ·rw [decide_eq_true (by omega)];rfl
   ·rw [decide_eq_false (by omega),cond_false,Zaf (by omega) (by omega),decide_eq_true (by omega)]
  rw [hc]
  rfl
 rw [if_neg hbig,decide_eq_false (by omega),cond_false,Zaf (n:=((s.length-30:Nat):Int)-((leN s 26 2:Nat):Int)) (by omega) (by omega),decide_eq_false (by omega)]
 simp only [Zaa,cond_false]
 rw [Zaf (n:=((leN s 26 2:Nat):Int)+((leN s 18 4:Nat):Int)) (by omega) (by omega),show ((leN s 26 2:Nat):Int)+((leN s 18 4:Nat):Int)=((leN s 26 2+leN s 18 4:Nat):Int) by omega]
 rw [Zab _ (by simp;omega),Zab _ (by simp;omega),Zab _ (by simp;omega),n10]
 simp only [Zaa]
 rw [ZsE _ (by omega)]
 have hbody:(((s.drop 30).take (leN s 26 2+leN s 18 4)).drop (leN s 26 2))=(s.drop (30+leN s 26 2)).take (leN s 18 4):=by
  rw [List.drop_take,List.drop_drop];congr 1;omega
 rw [Int.toNat_natCast,Int.toNat_natCast,hbody]
 have hbl:((s.drop (30+leN s 26 2)).take (leN s 18 4)).length=leN s 18 4:=by rw [List.length_take,List.length_drop];omega
 obtain ⟨g,hg⟩:∃g:Int×Int×Int×Int×Int×Int,g=if stM (stG (leN s 10 4)).y (stG (leN s 10 4)).mo (stG (leN s 10 4)).d (stG (leN s 10 4)).h (stG (leN s 10 4)).mi (stG (leN s 10 4)).sec then
   (((stG (leN s 10 4)).y:Int),((stG (leN s 10 4)).mo:Int),((stG (leN s 10 4)).d:Int),((stG (leN s 10 4)).h:Int),((stG (leN s 10 4)).mi:Int),((stG (leN s 10 4)).sec:Int)) else (0,0,0,0,0,0):=⟨_,rfl⟩
 obtain ⟨y,mo,d,h,mi,sec⟩:=g
 obtain ⟨b,hb⟩:∃b:Bool,(if stM (stG (leN s 10 4)).y (stG (leN s 10 4)).mo (stG (leN s 10 4)).d (stG (leN s 10 4)).h (stG (leN s 10 4)).mi (stG (leN s 10 4)).sec then
  (((stG (leN s 10 4)).y:Int),((stG (leN s 10 4)).mo:Int),((stG (leN s 10 4)).d:Int),((stG (leN s 10 4)).h:Int),((stG (leN s 10 4)).mi:Int),((stG (leN s 10 4)).sec:Int),true) else (0,0,0,0,0,0,false))=(y,mo,d,h,mi,sec,b):=by
  cases hst:stM (stG (leN s 10 4)).y (stG (leN s 10 4)).mo (stG (leN s 10 4)).d (stG (leN s 10 4)).h (stG (leN s 10 4)).mi (stG (leN s 10 4)).sec with
  | true=>
   rw [hst] at hg
   simp only [if_true] at hg ⊢
   exact ⟨true,by simp only [Prod.mk.injEq] at hg ⊢;simp [hg]⟩
  | false=>
   rw [hst] at hg
   simp only [Bool.false_eq_true,if_false] at hg ⊢
   exact ⟨false,by simp only [Prod.mk.injEq] at hg ⊢;simp [hg]⟩
 rw [hb]
 simp only [Zaa]
 have fin:∀t:Str,t.length≤1048576→
   (((ZbG ((s.drop 30).take (leN s 26 2)) y mo d h mi sec t).bind fun EntryOk=>(bif (!EntryOk) then (some true) else
    ((Zej ((s.drop 30).take (leN s 26 2)) y mo d h mi sec t (leN s 8 2:Int) (leN s 18 4:Int)).bind fun headOf_=>(need (decide (0≤(30:Int))&&decide ((30:Int)≤s.length)) (some (!(headOf_==(s.take 30)))))))).bind fun c2=>
    (bif c2 then (some (([],0,0,0,0,0,0,[],0,false):Str×Int×Int×Int×Int×Int×Int×Str×Int×Bool)) else
     (some ((s.drop 30).take (leN s 26 2),y,mo,d,h,mi,sec,t,(w64 ((w64 (30+((leN s 26 2:Nat):Int)))+((leN s 18 4:Nat):Int))),true)))) =
   some (ZyT (if ZsU s t then
    some (((s.drop 30).take (leN s 26 2),((stG (leN s 10 4)).y:Int),((stG (leN s 10 4)).mo:Int),((stG (leN s 10 4)).d:Int),((stG (leN s 10 4)).h:Int),((stG (leN s 10 4)).mi:Int),((stG (leN s 10 4)).sec:Int),t),30+leN s 26 2+leN s 18 4)
   else none)):=by
  intro t ht
  rw [ZyF s (by omega) hs (by omega) y mo d h mi sec t ht hg]
  simp only [Zaa]
  by_cases hp:ZsU s t
  ·have hst:=hp.2.1
   rw [hst] at hg
   simp only [if_true,Prod.mk.injEq] at hg
   obtain ⟨g1,g2,g3,g4,g5,g6⟩:=hg
   subst g1 g2 g3 g4 g5 g6
   rw [if_pos hp,decide_eq_true hp,Bool.not_true,cond_false,Zaf (n:=30+((leN s 26 2:Nat):Int)) (by omega) (by omega),Zaf (by omega) (by omega)]
   unfold ZyT
   dsimp only
   congr 9
  ·rw [if_neg hp,decide_eq_false hp];rfl
 by_cases c0:leN s 8 2=0
 ·rw [c0] at fin ⊢
  rw [show (((0:Nat):Int)==0)=true from rfl,cond_true]
  simp only [Zaa]
  exact fin _ (by rw [hbl];omega)
 rw [show (((leN s 8 2:Nat):Int)==0)=false by simp only [beq_eq_false_iff_ne,ne_eq];omega,cond_false]
 by_cases c8:leN s 8 2=8
 ·rw [c8] at fin ⊢
  rw [show (((8:Nat):Int)==8)=true by simp,cond_true,Zvj]
  simp only [Zaa]
  have hle:=ZrT ((s.drop (30+leN s 26 2)).take (leN s 18 4))
  unfold Zxz
  rw [if_neg (by omega),if_pos rfl,hbl]
  generalize ZhB ((s.drop (30+leN s 26 2)).take (leN s 18 4))=R at hle
  obtain ⟨t,n,ok⟩:=R
  dsimp only at hle ⊢
  cases ok with
  | false=>rw [if_neg (by simp)];rfl
  | true=>
   simp only [Bool.not_true,cond_false,Zaa,true_and]
   by_cases hn:n=((leN s 18 4:Nat):Int)
   ·rw [if_pos hn,show (n != ((leN s 18 4:Nat):Int))=false by simp [hn],cond_false]
    simp only [Zaa]
    exact fin t (by omega)
   ·rw [if_neg hn,show (n != ((leN s 18 4:Nat):Int))=true by simp [hn],cond_true];rfl
 ·rw [show (((leN s 8 2:Nat):Int)==8)=false by simp only [beq_eq_false_iff_ne,ne_eq];omega,cond_false]
  unfold Zxz
  rw [if_neg c0,if_neg c8];rfl
end Ev
end
section
namespace Ev
open Go
def Zqi (s:Str) (r:Str×Int×Int×Int×Int×Int×Int×Str×Int×Bool):Prop:=match ZhV s with
 | some p=>r=ZyT (some p)
 | none=>r.2.2.2.2.2.2.2.2.2=false
theorem eqI (a b:Nat):((a:Int)==(b:Int))=decide (a=b):=by
 by_cases h:a=b
 ·subst h;simp
 ·rw [decide_eq_false h];simp;omega
set_option maxRecDepth 100000 in
theorem Zro (s:Str) (hs:s.length≤1048576):Ret (ZeV s) (Zqi s):=by
 unfold ZeV
 have two:∀a,leN s a 2<256^2:=fun a=>Zg1 s a 2
 have four:∀a,leN s a 4<256^4:=fun a=>Zg1 s a 4
 have t26:=two 26
 have t8:=two 8
 have f18:=four 18
 have f10:=four 10
 have q:=fun a K (h1:K≤4) (h2:1≤K) (h3:a≤2000000000)=>ZpP s a K h1 h2 (by omega) h3
 have n26:Zcp s 26 2=_:=q 26 2 (by omega) (by omega) (by omega)
 have n18:Zcp s 18 4=_:=q 18 4 (by omega) (by omega) (by omega)
 have n0:Zcp s 0 4=_:=q 0 4 (by omega) (by omega) (by omega)
 have n4:Zcp s 4 2=_:=q 4 2 (by omega) (by omega) (by omega)
 have n6:Zcp s 6 2=_:=q 6 2 (by omega) (by omega) (by omega)
 have n28:Zcp s 28 2=_:=q 28 2 (by omega) (by omega) (by omega)
 have n10:Zcp s 10 4=_:=q 10 4 (by omega) (by omega) (by omega)
 have n8:Zcp s 8 2=_:=q 8 2 (by omega) (by omega) (by omega)
 have n14:Zcp s 14 4=_:=q 14 4 (by omega) (by omega) (by omega)
 have n22:Zcp s 22 4=_:=q 22 4 (by omega) (by omega) (by omega)
 rw [n26,n18,n0,n4,n6,n28,n10,n8,n14,n22]
 simp only [Zaa]
 by_cases h30:s.length<30
 ·have hno:ZhV s=none:=by unfold ZhV;rw [if_pos h30]
  rw [if_neg (show ¬28+2≤s.length by omega),show (((-1:Int))==0)=false from rfl]
  have hh:∀(a b c:Bool),(bif a then bif b then bif c then some false else some false else some false else some false)=some false:=fun a b c=>by cases a<;>cases b<;>cases c<;>rfl
  rw [hh]
  simp only [Zaa,Bool.not_false,cond_true]
  refine .pure ?_
  unfold Zqi
  rw [hno]
 rw [if_pos (show 26+2≤s.length by omega),if_pos (show 18+4≤s.length by omega),if_pos (show 0+4≤s.length by omega),if_pos (show 4+2≤s.length by omega),if_pos (show 6+2≤s.length by omega),if_pos (show 28+2≤s.length by omega),
  if_pos (show 10+4≤s.length by omega),if_pos (show 8+2≤s.length by omega),if_pos (show 14+4≤s.length by omega),if_pos (show 22+4≤s.length by omega)]
 rw [show (67324752:Int)=((67324752:Nat):Int) from rfl,show (((leN s 4 2:Nat):Int)==20)=decide (leN s 4 2=20) from eqI _ 20,show (((leN s 6 2:Nat):Int)==0)=decide (leN s 6 2=0) from eqI _ 0,show (((leN s 28 2:Nat):Int)==0)=decide (leN s 28 2=0) from eqI _ 0,eqI]
 by_cases hd:leN s 0 4=67324752∧leN s 4 2=20∧leN s 6 2=0∧leN s 28 2=0
 ·rw [decide_eq_true hd.1,decide_eq_true hd.2.1,decide_eq_true hd.2.2.1,decide_eq_true hd.2.2.2]
  simp only [cond_true,Zaa,Bool.not_true,cond_false]
  rw [decide_eq_false (show ¬((leN s 26 2:Nat):Int)<0 by omega),decide_eq_false (show ¬((leN s 18 4:Nat):Int)<0 by omega)]
  simp only [cond_false,Zaa]
  rw [Zaf (n:=30+((leN s 26 2:Nat):Int)) (by omega) (by omega),Zaf (n:=30+((leN s 26 2:Nat):Int)+((leN s 18 4:Nat):Int)) (by omega) (by omega),show 30+((leN s 26 2:Nat):Int)+((leN s 18 4:Nat):Int)=((30+leN s 26 2+leN s 18 4:Nat):Int) by omega,show 30+((leN s 26 2:Nat):Int)=((30+leN s 26 2:Nat):Int) by omega]
  by_cases hbig:s.length<30+leN s 26 2+leN s 18 4
  ·have hno:ZhV s=none:=by unfold ZhV;rw [if_neg h30,if_pos hbig]
   rw [decide_eq_true (by omega),cond_true]
   refine .pure ?_
   unfold Zqi
   rw [hno]
  rw [decide_eq_false (by omega),cond_false,Zab _ (by simp;omega),Zab _ (by simp;omega),Zyh _ (by omega)]
  simp only [Zaa]
  rw [Zab _ (by simp;omega),Zab _ (by simp;omega),Int.toNat_natCast,Int.toNat_natCast]
  have hbody:(s.take (30+leN s 26 2+leN s 18 4)).drop (30+leN s 26 2)=(s.drop (30+leN s 26 2)).take (leN s 18 4):=by
   rw [List.drop_take];congr 1;omega
  have hname:(s.take (30+leN s 26 2)).drop 30=(s.drop 30).take (leN s 26 2):=by
   rw [List.drop_take];congr 1;omega
  have hnl:((s.drop 30).take (leN s 26 2)).length=leN s 26 2:=by rw [List.length_take,List.length_drop];omega
  have hbl:((s.drop (30+leN s 26 2)).take (leN s 18 4)).length=leN s 18 4:=by rw [List.length_take,List.length_drop];omega
  rw [hbody,hname]
  have htx:∃(t:Str) (b:Bool),Zgs ((leN s 8 2:Nat):Int) ((s.drop (30+leN s 26 2)).take (leN s 18 4))=some (t,b)∧t.length≤1048576∧Zxz (leN s 8 2) ((s.drop (30+leN s 26 2)).take (leN s 18 4))=if b then some t else none:=by
   unfold Zgs Zxz
   by_cases c0:leN s 8 2=0
   ·rw [c0,if_pos rfl]
    exact ⟨_,true,rfl,by rw [hbl];omega,rfl⟩
   rw [show (((leN s 8 2:Nat):Int)==0)=false by simp only [beq_eq_false_iff_ne,ne_eq];omega,cond_false,if_neg c0,ZnQ]
   have hle:=ZrT ((s.drop (30+leN s 26 2)).take (leN s 18 4))
   generalize ZhB ((s.drop (30+leN s 26 2)).take (leN s 18 4))=R at hle
   obtain ⟨t,n,ok⟩:=R
   dsimp only at hle
   simp only [Zaa]
   rw [show (((leN s 8 2:Nat):Int)==8)=decide (leN s 8 2=8) from eqI _ 8]
   by_cases c8:leN s 8 2=8
   ·rw [if_pos c8,decide_eq_true c8]
    cases ok with
    | false=>exact ⟨t,false,rfl,by omega,by rw [if_neg (by simp)];rfl⟩
    | true=>
     by_cases hn:n=((((s.drop (30+leN s 26 2)).take (leN s 18 4)).length:Nat):Int)
     ·exact ⟨t,true,by simp [hn],by omega,by rw [if_pos ⟨rfl,hn⟩];rfl⟩
     ·refine ⟨t,false,?_,by omega,by rw [if_neg (fun e=>hn e.2)];rfl⟩
      rw [beq_false_of_ne hn];rfl
   ·rw [if_neg c8,decide_eq_false c8]
    cases ok<;>exact ⟨t,false,rfl,by omega,rfl⟩
  obtain ⟨t,b,e,htl,hun⟩:=htx
  rw [e]
  simp only [Zaa]
  rw [Zom t (by omega)]
  simp only [Zaa]
  rw [eqI,eqI]
  have hloc:ZhV s=match (if b then some t else none) with
    | none=>none
    | some t=>if ZsU s t then
     some (((s.drop 30).take (leN s 26 2),((stG (leN s 10 4)).y:Int),((stG (leN s 10 4)).mo:Int),((stG (leN s 10 4)).d:Int),((stG (leN s 10 4)).h:Int),((stG (leN s 10 4)).mi:Int),((stG (leN s 10 4)).sec:Int),t),30+leN s 26 2+leN s 18 4)
     else none:=by
   unfold ZhV;rw [if_neg h30,if_neg hbig,hun]<;>cases b<;>rfl
  cases b with
  | false=>
   simp only [cond_false,Zaa]
   refine .pure ?_
   unfold Zqi
   rw [hloc]
   rfl
  | true=>
   simp only [if_true] at hloc
   simp only [cond_true]
   by_cases hc:leN s 14 4=Zqq t∧leN s 22 4=t.length
   ·rw [decide_eq_true hc.1,decide_eq_true hc.2]
    simp only [cond_true,Zaa]
    rw [ZgE _ (by omega)]
    simp only [Zaa]
    refine .pure ?_
    unfold Zqi
    rw [hloc]
    by_cases hC:ZsU s t
    ·rw [if_pos hC]
     show _=_
     have h1:=hC.1
     have h2:=hC.2.1
     have h3:=hC.2.2.1
     rw [h1,h2,decide_eq_true h3]
     rfl
    ·rw [if_neg hC]
     show (ZcG ((s.drop 30).take (leN s 26 2))&&(stM (stG (leN s 10 4)).y (stG (leN s 10 4)).mo (stG (leN s 10 4)).d (stG (leN s 10 4)).h (stG (leN s 10 4)).mi (stG (leN s 10 4)).sec&&decide (t.length≤300)))=false
     cases hn:ZcG ((s.drop 30).take (leN s 26 2)) with
     | false=>rfl
     | true=>
      cases hst:stM (stG (leN s 10 4)).y (stG (leN s 10 4)).mo (stG (leN s 10 4)).d (stG (leN s 10 4)).h (stG (leN s 10 4)).mi (stG (leN s 10 4)).sec with
      | false=>rfl
      | true=>
       by_cases h3:t.length≤300
       ·exact absurd ⟨hn,hst,h3,hd.1,hd.2.1,hd.2.2.1,hd.2.2.2,hc.1,hc.2⟩ hC
       ·rw [decide_eq_false h3];rfl
   ·have hC:¬ZsU s t:=fun q=>hc ⟨q.2.2.2.2.2.2.2.1,q.2.2.2.2.2.2.2.2⟩
    rw [if_neg hC] at hloc
    have e2:(bif decide (leN s 14 4=Zqq t) then some (decide (leN s 22 4=t.length)) else some false)=some false:=by
     by_cases h1:leN s 14 4=Zqq t
     ·rw [decide_eq_true h1,decide_eq_false (fun q=>hc ⟨h1,q⟩)];rfl
     ·rw [decide_eq_false h1];rfl
    rw [e2]
    simp only [Zaa,cond_false]
    refine .pure ?_
    unfold Zqi
    rw [hloc]
 ·have hh:(bif decide (leN s 0 4=67324752) then bif decide (leN s 4 2=20) then bif decide (leN s 6 2=0) then some (decide (leN s 28 2=0)) else some false else some false else some false)=some false:=by
   by_cases a1:leN s 0 4=67324752
   ·by_cases a2:leN s 4 2=20
    ·by_cases a3:leN s 6 2=0
     ·rw [decide_eq_true a1,decide_eq_true a2,decide_eq_true a3,decide_eq_false (fun a4=>hd ⟨a1,a2,a3,a4⟩)];rfl
     ·rw [decide_eq_true a1,decide_eq_true a2,decide_eq_false a3];rfl
    ·rw [decide_eq_true a1,decide_eq_false a2];rfl
   ·rw [decide_eq_false a1];rfl
  rw [hh]
  simp only [Zaa,Bool.not_false,cond_true]
  refine .pure ?_
  unfold Zqi
  have hno:ZhV s=none:=by
   unfold ZhV
   rw [if_neg h30]
   split
   ·rfl
   ·split
    ·rfl
    ·rw [if_neg (fun q=>hd ⟨q.2.2.2.1,q.2.2.2.2.1,q.2.2.2.2.2.1,q.2.2.2.2.2.2.1⟩)]
  rw [hno]
end Ev
end
section
namespace Ev
open Go
def Zge (a b:Str):Bool:=decide (a.length<b.length)&&((b.take a.length==a)&&(b.getD a.length 0==47))
def pre (s p:Str):Bool:=decide (p.length≤s.length)&&(s.take p.length==p)
theorem ZkC (a b:Str):ZdA a b=some (Zge a b):=by
 unfold ZdA Zge
 simp only [Zh6,gt_iff_lt,Int.toNat_natCast]
 by_cases h:a.length<b.length
 ·rw [if_pos (by omega),Zab _ (ZjM (by omega)),Zab _ (Zay h),decide_eq_true h]
  have hb:=Zxl (b.getD a.length 0) 47 (by decide)
  rw [show ((47:Nat):Int)=47 from rfl] at hb
  rw [hb,show UInt8.ofNat 47=47 from rfl]
  cases (b.take a.length==a)<;>rfl
 ·rw [if_neg (by omega),decide_eq_false h];rfl
theorem ZrJ (s p:Str):ZcU s p=some (pre s p):=by
 unfold ZcU ZcP pre
 simp only [Zh6,ge_iff_le,Int.toNat_natCast]
 by_cases h:p.length≤s.length
 ·rw [if_pos (by omega),Zab _ (ZjM h),decide_eq_true h];rfl
 ·rw [if_neg (by omega),decide_eq_false h];rfl
theorem Zju (a b:Str):pre b (a++[47])=Zge a b:=by
 unfold pre Zge
 rw [Bool.eq_iff_iff]
 simp only [Bool.and_eq_true,decide_eq_true_eq,beq_iff_eq,List.length_append,List.length_singleton]
 constructor
 ·rintro ⟨h1,h2⟩
  have h3:a.length<b.length:=by omega
  rw [List.take_succ_eq_append_getElem h3] at h2
  obtain ⟨e1,e2⟩:=List.append_inj h2 (by simp;omega)
  refine ⟨h3,e1,?_⟩
  simp at e2
  simp [List.getD,h3,e2]
 ·rintro ⟨h1,h2,h3⟩
  refine ⟨by omega,?_⟩
  rw [List.take_succ_eq_append_getElem h1,h2]
  have:b[a.length]=47:=by simpa [List.getD,h1] using h3
  rw [this]
theorem ZuE (a:Str):Zge a a=false:=by unfold Zge;simp
end Ev
end
section
namespace Ev
open Go
def hit (a b:Str):Bool:=a==b||(pre a (b++[47])||pre b (a++[47]))
theorem ZyK (names u:List Str) (a:Str) (t3:List Str) (t4 t5:Int) (ha:a.length≤1048576) (hu:∀b,b∈u→b.length≤1048576) (hul:u.length≤1048576):∀k j,j+k=u.length→
  ZcQ.l0 (k+1) (names,a,t3,t4,t5,u,(u.length:Int),(j:Int))=some (if (u.drop j).all (fun b=>!hit a b) then .inl (names,t3,t4,t5) else .inr (.inr false)):=by
 intro k
 induction k with
 | zero=>
  intro j hj
  rw [ZcQ.l0.succ]
  simp only [ZcQ.l0.step]
  rw [ZaR (by omega),List.drop_eq_nil_of_le (by omega)]
  rfl
 | succ k ih=>
  intro j hj
  have hjl:j<u.length:=by omega
  have hd:u.drop j=u[j]::u.drop (j+1):=List.drop_eq_getElem_cons hjl
  have hg:u.getD j []=u[j]:=by simp [List.getD,hjl]
  have hm:=hu u[j] (List.getElem_mem hjl)
  rw [ZcQ.l0.succ]
  simp only [ZcQ.l0.step,Int.toNat_natCast,ZrJ,Option.bind_some,hg]
  rw [Zab _ (Zay hjl),ZaQ hjl,cond_true,Zab _ (Zgb (by simp;omega)),Zab _ (Zgb (by simp;omega)),ZdS (by omega),ih (j+1) (by omega),hd,List.all_cons,hit]
  cases (a==u[j])<;>cases pre a (u[j]++[47])<;>cases pre u[j] (a++[47])<;>rfl
theorem ZyJ (names:List Str) (hn:names.length≤1048576) (hx:∀b,b∈names→b.length≤1048576):∀k i,i+k=names.length→
  ZcQ.l1 (k+1) (names,names,(names.length:Int),(i:Int))=some (if (List.range' i k).all (fun i=>(names.take i).all (fun b=>!hit (names.getD i []) b)) then .inl () else .inr false):=by
 intro k
 induction k with
 | zero=>
  intro i hi
  rw [ZcQ.l1.succ]
  simp only [ZcQ.l1.step]
  rw [ZaR (by omega)]
  rfl
 | succ k ih=>
  intro i hi
  have hil:i<names.length:=by omega
  have hg:names.getD i []=names[i]:=by simp [List.getD,hil]
  rw [ZcQ.l1.succ]
  simp only [ZcQ.l1.step,Int.toNat_natCast]
  rw [Zab _ (Zay hil),Zab _ (ZjM (by omega)),ZaQ hil,cond_true,ZaG]
  have h0:=ZyK names (names.take i) (names.getD i []) names (names.length:Int) (i:Int) (by rw [hg];exact hx _ (List.getElem_mem hil)) (fun b hb=>hx b (List.mem_of_mem_take hb)) (by simp;omega) (names.take i).length 0 (by omega)
  rw [show ((0:Nat):Int)=0 from rfl,List.drop_zero] at h0
  rw [h0,List.range'_succ,List.all_cons]
  cases (names.take i).all (fun b=>!hit (names.getD i []) b) with
  | false=>rfl
  | true=>
   simp only [if_true,Option.bind_some,Bool.true_and]
   rw [ZdS (by omega)]
   exact ih (i+1) (by omega)
theorem Zqg (names:List Str) (hn:names.length≤1048576) (hx:∀b,b∈names→b.length≤1048576):ZcQ names=some ((List.range names.length).all (fun i=>(names.take i).all (fun b=>!hit (names.getD i []) b))):=by
 unfold ZcQ
 have h:=ZyJ names hn hx names.length 0 (by omega)
 rw [show ((0:Nat):Int)=0 from rfl] at h
 rw [ZaG,h,List.range_eq_range']
 cases (List.range' 0 names.length).all (fun i=>(names.take i).all (fun b=>!hit (names.getD i []) b))<;>rfl
end Ev
end
section
namespace Ev
open Go
def Fil.z:Fil:=([],0,0,0,0,0,0,[])
def Zcb (e:Fil):Bool:=ZcG e.1&&(stM e.2.1 e.2.2.1 e.2.2.2.1 e.2.2.2.2.1 e.2.2.2.2.2.1 e.2.2.2.2.2.2.1&&decide (e.2.2.2.2.2.2.2.length≤300))
theorem Ztl (es:List Fil) (hn:es.length≤1048576) (hx:∀e∈es,e.1.length≤1048576):∀(j i:Nat),i+j=es.length→
  Zeo.l0 (j+1) (es,es,(es.length:Int),(i:Int))=some (if (es.drop i).all Zcb then .inl es else .inr false)
 | 0,i,h=>by
  rw [Zeo.l0.succ];simp only [Zeo.l0.step]
  rw [ZaR (by omega),List.drop_eq_nil_of_le (by omega)];rfl
 | j+1,i,h=>by
  have hi:i<es.length:=by omega
  rw [Zeo.l0.succ];simp only [Zeo.l0.step]
  rw [ZaQ hi,cond_true,Zab _ Zau,Int.toNat_natCast,show es.getD i ([],0,0,0,0,0,0,[])=es[i] from Zal hi,ZkS _ (hx _ (List.getElem_mem hi)),Zaf (by omega) (by omega),show (i:Int)+1=((i+1:Nat):Int) by omega,
   Ztl es hn hx j (i+1) (by omega),List.drop_eq_getElem_cons hi,List.all_cons]
  simp only [Zaa]
  have e:(ZcG es[i].1&&(stM es[i].2.1 es[i].2.2.1 es[i].2.2.2.1 es[i].2.2.2.2.1 es[i].2.2.2.2.2.1 es[i].2.2.2.2.2.2.1&&decide (es[i].2.2.2.2.2.2.2.length≤300)))=Zcb es[i]:=rfl
  rw [e]
  cases Zcb es[i]<;>rfl
theorem ZoB (es:List Fil) (hn:es.length≤1048576):∀(j i:Nat) (out:List Str),i+j=es.length→out.length=i→
  Zbj.l0 (j+1) (es,(es.length:Int),(i:Int),out)=some (out++(es.drop i).map Prod.fst)
 | 0,i,out,h,ho=>by
  rw [Zbj.l0.succ];simp only [Zbj.l0.step]
  rw [ZaR (by omega),List.drop_eq_nil_of_le (by omega)];simp
 | j+1,i,out,h,ho=>by
  have hi:i<es.length:=by omega
  rw [Zbj.l0.succ];simp only [Zbj.l0.step]
  rw [ZaQ hi,cond_true,Zab _ Zau,Int.toNat_natCast,show es.getD i ([],0,0,0,0,0,0,[])=es[i] from Zal hi,Zad (by simp;omega),Zaf (by omega) (by omega),show (i:Int)+1=((i+1:Nat):Int) by omega,
   ZoB es hn j (i+1) _ (by omega) (by simp [ho]),List.drop_eq_getElem_cons hi,List.map_cons,List.append_assoc]
  rfl
theorem Ziq (es:List Fil) (hn:es.length≤1048576):Zbj es=some (es.map Prod.fst):=by
 have h:=ZoB es hn es.length 0 [] (by omega) rfl
 rw [show ((0:Nat):Int)=0 from rfl,List.drop_zero,List.nil_append] at h
 unfold Zbj
 rw [ZaG,h];rfl
def ZfA (names:List Str):Bool:=(List.range names.length).all fun i=>(names.take i).all fun b=>!hit (names.getD i []) b
def ZdD (es:List Fil):Bool:=es.all Zcb&&(decide (es.length≤6)&&ZfA (es.map Prod.fst))
theorem Ztm (es:List Fil) (hn:es.length≤1048576) (hx:∀e∈es,e.1.length≤1048576):Zeo es=some (ZdD es):=by
 have h:=Ztl es hn hx es.length 0 (by omega)
 rw [show ((0:Nat):Int)=0 from rfl,List.drop_zero] at h
 unfold Zeo ZdD
 rw [ZaG,h]
 simp only [Zaa]
 cases es.all Zcb with
 | false=>rfl
 | true=>
  simp only [if_true,Bool.true_and]
  by_cases h6:es.length≤6
  ·rw [decide_eq_true (by omega),decide_eq_true h6,cond_true,Ziq es hn]
   simp only [Zaa]
   rw [Zqg _ (by simpa using hn) (fun b hb=>by obtain ⟨e,he,rfl⟩:=List.mem_map.1 hb;exact hx e he)]
   rfl
  ·rw [decide_eq_false (by omega),decide_eq_false h6];rfl
end Ev
end
section
namespace Ev
open Go
def Zh2 (es:List Fil) (i:Nat) (n:Str):Bool:=(es.take i).all fun e=>!(e.1==n)
theorem ZwF (es:List Fil) (hn:es.length≤1048576) (i:Nat) (hi:i<es.length):∀(k j:Nat),j+k=i→(∀e∈es.take j,(e.1==(es.getD i Fil.z).1)=false)→∀F,k<F→
  ∃m:Nat,Zgd.l0 F (es,(es.getD i Fil.z).1,(j:Int))=some (.inr (m:Int))∧m≤i∧(m=i↔Zh2 es i (es.getD i Fil.z).1=true)
 | 0,j,h,hj,0,hF=>absurd hF (by omega)
 | 0,j,h,hj,F+1,hF=>by
  have hji:j=i:=by omega
  subst hji
  refine ⟨j,?_,Nat.le_refl _,fun _=>?_,fun _=>rfl⟩
  ·rw [Zgd.l0.succ];simp only [Zgd.l0.step]
   rw [ZaQ hi,cond_true,Zab _ Zau,Int.toNat_natCast,show es.getD j ([],0,0,0,0,0,0,[])=es.getD j Fil.z from rfl,beq_self_eq_true,cond_true]
   rfl
  ·unfold Zh2
   rw [List.all_eq_true]
   intro e he
   rw [hj e he];rfl
 | k+1,j,h,hj,0,hF=>absurd hF (by omega)
 | k+1,j,h,hj,F+1,hF=>by
  have hlt:j<es.length:=by omega
  rw [Zgd.l0.succ];simp only [Zgd.l0.step]
  rw [ZaQ hlt,cond_true,Zab _ Zau,Int.toNat_natCast,show es.getD j ([],0,0,0,0,0,0,[])=es[j] from Zal hlt]
  cases hc:(es[j].1==(es.getD i Fil.z).1) with
  | true=>
   rw [cond_true]
   refine ⟨j,rfl,by omega,fun e=>by omega,fun e=>?_⟩
   exfalso
   unfold Zh2 at e
   rw [List.all_eq_true] at e
   have hm:es[j]∈es.take i:=List.mem_take_iff_getElem.2 ⟨j,by omega,rfl⟩
   have:=e _ hm
   rw [hc] at this;cases this
  | false=>
   rw [cond_false,Zaf (by omega) (by omega),show (j:Int)+1=((j+1:Nat):Int) by omega]
   refine ZwF es hn i hi k (j+1) (by omega) (fun e he=>?_) F (by omega)
   rw [List.take_succ_eq_append_getElem hlt] at he
   rcases List.mem_append.1 he with he | he
   ·exact hj e he
   ·have:e=es[j]:=by simpa using he
    subst this;exact hc
theorem ZwE (es:List Fil) (hn:es.length≤1048576) (i:Nat) (hi:i<es.length):(Zgd es (es.getD i Fil.z).1).bind (fun m=>some (m != (i:Int)))=some (!Zh2 es i (es.getD i Fil.z).1):=by
 obtain ⟨m,e,hm,hf⟩:=ZwF es hn i hi i 0 (by omega) (fun e he=>by simp at he) (es.length+1) (by omega)
 rw [show ((0:Nat):Int)=0 from rfl] at e
 unfold Zgd
 rw [ZaG,e]
 simp only [Zaa]
 cases hfm:Zh2 es i (es.getD i Fil.z).1 with
 | true=>rw [hf.2 hfm];simp
 | false=>
  have:m≠i:=fun e=>by rw [hf.1 e] at hfm;cases hfm
  simp;omega
theorem Zk7 (es:List Fil) (hn:es.length≤1048576) (i:Nat) (hi:i<es.length):∀(k j:Nat),j+k=es.length→
  ZaF.l0 (k+1) (es,(i:Int),(j:Int))=some (if (es.drop j).all (fun q=>!Zge (es.getD i Fil.z).1 q.1) then .inl (es,(i:Int)) else .inr (.inr false))
 | 0,j,h=>by
  rw [ZaF.l0.succ];simp only [ZaF.l0.step]
  rw [ZaR (by omega),List.drop_eq_nil_of_le (by omega)];rfl
 | k+1,j,h=>by
  have hj:j<es.length:=by omega
  rw [ZaF.l0.succ];simp only [ZaF.l0.step]
  rw [ZaQ hj,cond_true,Zab _ (Zay hi),Zab _ Zau,Int.toNat_natCast,Int.toNat_natCast,show es.getD j ([],0,0,0,0,0,0,[])=es[j] from Zal hj,show es.getD i ([],0,0,0,0,0,0,[])=es.getD i Fil.z from rfl,ZkC,
   Zaf (by omega) (by omega),show (j:Int)+1=((j+1:Nat):Int) by omega,Zk7 es hn i hi k (j+1) (by omega),List.drop_eq_getElem_cons hj,List.all_cons]
  simp only [Zaa]
  cases Zge (es.getD i Fil.z).1 es[j].1<;>rfl
def ZrL (es:List Fil) (i:Nat):Bool:=Zcb (es.getD i Fil.z)&&(Zh2 es i (es.getD i Fil.z).1&&es.all fun q=>!Zge (es.getD i Fil.z).1 q.1)
theorem Zk6 (es:List Fil) (hn:es.length≤1048576) (hx:∀e∈es,e.1.length≤1048576):∀(k i:Nat),i+k=es.length→
  ZaF.l1 (k+1) (es,(i:Int))=some (if (List.range' i k).all (ZrL es) then .inl es else .inr false)
 | 0,i,h=>by
  rw [ZaF.l1.succ];simp only [ZaF.l1.step]
  rw [ZaR (by omega)];rfl
 | k+1,i,h=>by
  have hi:i<es.length:=by omega
  have hself:=ZwE es hn i hi
  have h0:=Zk7 es hn i hi es.length 0 (by omega)
  rw [show ((0:Nat):Int)=0 from rfl,List.drop_zero] at h0
  rw [ZaF.l1.succ];simp only [ZaF.l1.step]
  rw [ZaQ hi,cond_true,Zab _ Zau,Int.toNat_natCast,show es.getD i ([],0,0,0,0,0,0,[])=es.getD i Fil.z from rfl,ZgE _ (by rw [Zal hi];exact hx _ (List.getElem_mem hi)),Zab _ Zau,hself,ZaG,h0,List.range'_succ,List.all_cons]
  simp only [Zaa]
  have e:(ZcG (es.getD i Fil.z).1&&(stM (es.getD i Fil.z).2.1 (es.getD i Fil.z).2.2.1 (es.getD i Fil.z).2.2.2.1 (es.getD i Fil.z).2.2.2.2.1 (es.getD i Fil.z).2.2.2.2.2.1 (es.getD i Fil.z).2.2.2.2.2.2.1&&decide ((es.getD i Fil.z).2.2.2.2.2.2.2.length≤300)))=Zcb (es.getD i Fil.z):=rfl
  have g:ZrL es i=(Zcb (es.getD i Fil.z)&&(Zh2 es i (es.getD i Fil.z).1&&es.all fun q=>!Zge (es.getD i Fil.z).1 q.1)):=rfl
  rw [e,g]
  cases Zcb (es.getD i Fil.z) with
  | false=>rfl
  | true=>
   cases Zh2 es i (es.getD i Fil.z).1 with
   | false=>rfl
   | true=>
    cases es.all (fun q=>!Zge (es.getD i Fil.z).1 q.1) with
    | false=>rfl
    | true=>
     simp only [Bool.not_true,cond_false,Zaa,if_true,Bool.true_and]
     rw [Zaf (by omega) (by omega),show (i:Int)+1=((i+1:Nat):Int) by omega]
     exact Zk6 es hn hx k (i+1) (by omega)
theorem ZqE (es:List Fil) (hn:es.length≤1048576) (hx:∀e∈es,e.1.length≤1048576):ZaF es=some ((List.range es.length).all (ZrL es)&&decide (es.length≤6)):=by
 have h:=Zk6 es hn hx es.length 0 (by omega)
 rw [show ((0:Nat):Int)=0 from rfl,←List.range_eq_range'] at h
 unfold ZaF
 rw [ZaG,h]
 simp only [Zaa]
 cases (List.range es.length).all (ZrL es) with
 | false=>rfl
 | true=>
  simp only [if_true,Bool.true_and]
  congr 1
  by_cases h6:es.length≤6
  ·rw [decide_eq_true h6,decide_eq_true (by omega)]
  ·rw [decide_eq_false h6,decide_eq_false (by omega)]
end Ev
end
section
namespace Ev
open Go
theorem ZwS (a b:Str):hit a b=false↔a≠b∧Zge b a=false∧Zge a b=false:=by
 unfold hit
 rw [Zju,Zju,Bool.or_eq_false_iff,Bool.or_eq_false_iff,beq_eq_false_iff_ne]
theorem Zq5 {es:List Fil} {i:Nat} {e:Fil} (h:e∈es.take i):∃j,j<i∧j<es.length∧es.getD j Fil.z=e:=by
 obtain ⟨j,hj,rfl⟩:=List.getElem_of_mem h
 rw [List.length_take] at hj
 exact ⟨j,by omega,by omega,by rw [Zal (by omega),List.getElem_take]⟩
theorem ZqA {es:List Fil} {i j:Nat} (h1:j<i) (h2:j<es.length):es.getD j Fil.z∈es.take i:=by
 rw [Zal h2];exact List.mem_take_iff_getElem.2 ⟨j,by omega,rfl⟩
theorem Zue (es:List Fil) (i:Nat):(es.map Prod.fst).getD i []=(es.getD i Fil.z).1:=by
 simp only [List.getD_eq_getElem?_getD,List.getElem?_map]
 cases es[i]?<;>rfl
theorem Zy6 (es:List Fil):ZdD es=true↔(∀i,i<es.length→Zcb (es.getD i Fil.z)=true)∧es.length≤6∧∀i j,i<es.length→j<i→(es.getD i Fil.z).1≠(es.getD j Fil.z).1∧Zge (es.getD j Fil.z).1 (es.getD i Fil.z).1=false∧Zge (es.getD i Fil.z).1 (es.getD j Fil.z).1=false:=by
 unfold ZdD ZfA
 rw [Bool.and_eq_true,Bool.and_eq_true,List.all_eq_true,List.all_eq_true,decide_eq_true_eq]
 constructor
 ·rintro ⟨h1,h2,h3⟩
  refine ⟨fun i hi=>h1 _ (by rw [Zal hi];exact List.getElem_mem hi),h2,fun i j hi hj=>?_⟩
  have h:=h3 i (List.mem_range.2 (by simpa using hi))
  rw [List.all_eq_true] at h
  have:=h (es.getD j Fil.z).1 (by rw [←List.map_take];exact List.mem_map.2 ⟨_,ZqA hj (by omega),rfl⟩)
  rw [Zue,Bool.not_eq_true',ZwS] at this
  exact this
 ·rintro ⟨h1,h2,h3⟩
  refine ⟨fun e he=>?_,h2,fun i hi=>?_⟩
  ·obtain ⟨i,hi,rfl⟩:=List.getElem_of_mem he
   have:=h1 i hi
   rwa [Zal hi] at this
  ·have hi:i<es.length:=by simpa using List.mem_range.1 hi
   rw [List.all_eq_true]
   intro b hb
   rw [←List.map_take] at hb
   obtain ⟨e,he,rfl⟩:=List.mem_map.1 hb
   obtain ⟨j,hj,_,rfl⟩:=Zq5 he
   rw [Zue,Bool.not_eq_true',ZwS]
   exact h3 i j hi hj
theorem Zyo (es:List Fil):((List.range es.length).all (ZrL es)&&decide (es.length≤6))=true↔(∀i,i<es.length→Zcb (es.getD i Fil.z)=true)∧es.length≤6∧∀i j,i<es.length→j<i→(es.getD i Fil.z).1≠(es.getD j Fil.z).1∧Zge (es.getD j Fil.z).1 (es.getD i Fil.z).1=false∧Zge (es.getD i Fil.z).1 (es.getD j Fil.z).1=false:=by
 rw [Bool.and_eq_true,List.all_eq_true,decide_eq_true_eq]
 have un:∀i,ZrL es i=true→Zcb (es.getD i Fil.z)=true∧Zh2 es i (es.getD i Fil.z).1=true∧∀q∈es,Zge (es.getD i Fil.z).1 q.1=false:=fun i h=>by
  unfold ZrL at h
  rw [Bool.and_eq_true,Bool.and_eq_true,List.all_eq_true] at h
  exact ⟨h.1,h.2.1,fun q hq=>by have:=h.2.2 q hq;rwa [Bool.not_eq_true'] at this⟩
 constructor
 ·rintro ⟨h1,h2⟩
  refine ⟨fun i hi=>(un i (h1 i (List.mem_range.2 hi))).1,h2,fun i j hi hj=>⟨fun e=>?_,?_,?_⟩⟩
  ·have h:=(un i (h1 i (List.mem_range.2 hi))).2.1
   unfold Zh2 at h
   rw [List.all_eq_true] at h
   have:=h _ (ZqA hj (by omega))
   rw [←e,beq_self_eq_true] at this
   cases this
  ·exact (un j (h1 j (List.mem_range.2 (by omega)))).2.2 _ (by rw [Zal hi];exact List.getElem_mem hi)
  ·exact (un i (h1 i (List.mem_range.2 hi))).2.2 _ (by rw [Zal (by omega:j<es.length)];exact List.getElem_mem _)
 ·rintro ⟨h1,h2,h3⟩
  refine ⟨fun i hi=>?_,h2⟩
  have hi:=List.mem_range.1 hi
  unfold ZrL
  rw [Bool.and_eq_true,Bool.and_eq_true,List.all_eq_true]
  refine ⟨h1 i hi,?_,fun q hq=>?_⟩
  ·unfold Zh2
   rw [List.all_eq_true]
   intro e he
   obtain ⟨j,hj,_,rfl⟩:=Zq5 he
   rw [Bool.not_eq_true',beq_eq_false_iff_ne]
   exact fun e=>(h3 i j hi hj).1 e.symm
  ·obtain ⟨j,hj,rfl⟩:=List.getElem_of_mem hq
   rw [Bool.not_eq_true',←Zal (d:=Fil.z) hj]
   rcases Nat.lt_trichotomy i j with h | h | h
   ·exact (h3 j i hj h).2.1
   ·subst h;exact ZuE _
   ·exact (h3 i j hi h).2.2
theorem ZuA (es:List Fil) (hn:es.length≤1048576) (hx:∀e∈es,e.1.length≤1048576):ZaF es=some (ZdD es):=by
 rw [ZqE es hn hx]
 congr 1
 rw [Bool.eq_iff_iff,Zyo,Zy6]
end Ev
end
section
namespace Ev
open Go
def Zje (l:Str) (a:Nat):Str:=leB 33639248 4++leB 20 2++(l.take 30).drop 4++leB 0 10++leB a 4++(l.take (30+leN l 26 2)).drop 30
def ZcI:List Str→Nat→Str
 | [],_=>[]
 | l::r,a=>Zje l a++ZcI r (a+l.length)
def ZvE (many long a:Nat):Str:=leB 101010256 4++leB 0 4++leB many 2++leB many 2++leB long 4++leB a 4++leB 0 2
def ZfG (ls:List Str):Nat:=(ls.map List.length).sum
def ZeW (ls:List Str):Str:=ZcI ls 0++ZvE ls.length (ZcI ls 0).length (ZfG ls)
def Zql (l:Str):Prop:=30+leN l 26 2≤l.length∧l.length≤1048576
theorem Zh7 (l:Str) (a:Nat) (h:Zql l):(Zje l a).length=46+leN l 26 2:=by
 have:=h.1
 unfold Zje
 simp only [List.length_append,ZaN,List.length_drop,List.length_take]
 omega
theorem ZpY (ls:List Str) (h:∀l∈ls,Zql l):∀a,(ZcI ls a).length≤1100000*ls.length:=by
 induction ls with
 | nil=>intro a;simp [ZcI]
 | cons l r ih=>
  intro a
  have h1:=Zh7 l a (h l (by simp))
  have h2:=ih (fun x hx=>h x (by simp [hx])) (a+l.length)
  have:=(h l (by simp)).1
  have:=(h l (by simp)).2
  simp only [ZcI,List.length_append,List.length_cons]
  omega
set_option maxRecDepth 100000 in
theorem Zpd (ls:List Str) (hn:ls.length≤1000) (hL:∀l∈ls,Zql l):∀(j i:Nat) (heads:Str) (a:Nat),i+j=ls.length→heads.length≤2000000*i→a≤1048576*i→
  ZbL.l0 (j+1) (ls,heads,(a:Int),ls,(ls.length:Int),(i:Int))=some (ls,heads++ZcI (ls.drop i) a,((a+ZfG (ls.drop i):Nat):Int))
 | 0,i,heads,a,h,hh,ha=>by
  rw [ZbL.l0.succ];simp only [ZbL.l0.step]
  rw [ZaR (by omega),cond_false,List.drop_eq_nil_of_le (show ls.length≤i by omega)];simp [ZcI,ZfG]
 | j+1,i,heads,a,h,hh,ha=>by
  have hi:i<ls.length:=by omega
  have hl:=hL ls[i] (List.getElem_mem hi)
  obtain ⟨hl1,hl2⟩:=hl
  have hc:=Zh7 ls[i] a ⟨hl1,hl2⟩
  have n26:=Zf2 ls[i] 26 2 (by omega) (by omega) (by omega) (by omega)
  have m20:=ZcF 20 2 (by omega) (by omega)
  have m0:=ZcF 0 10 (by omega) (by omega)
  have ma:=ZcF a 4 (by omega) (by omega)
  rw [show ((26:Nat):Int)=26 from rfl,show ((2:Nat):Int)=2 from rfl] at n26
  rw [show ((20:Nat):Int)=20 from rfl,show ((2:Nat):Int)=2 from rfl] at m20
  rw [show ((0:Nat):Int)=0 from rfl,show ((10:Nat):Int)=10 from rfl] at m0
  rw [show ((4:Nat):Int)=4 from rfl] at ma
  have hm:([80,75,1,2]:Str)=leB 33639248 4:=by decide
  have ih:=Zpd ls hn hL j (i+1) (heads++Zje ls[i] a) (a+ls[i].length) (by omega) (by rw [List.length_append];omega) (by omega)
  rw [ZbL.l0.succ];simp only [ZbL.l0.step]
  rw [ZaQ hi,cond_true,Zab _ Zau,Int.toNat_natCast,show ls.getD i []=ls[i] from Zal hi,n26,m20,m0,ma,hm]
  simp only [Zaa]
  rw [Zaf (n:=30+((leN ls[i] 26 2:Nat):Int)) (by omega) (by omega),show 30+((leN ls[i] 26 2:Nat):Int)=((30+leN ls[i] 26 2:Nat):Int) by omega,Int.toNat_natCast,
   Zaf (n:=(a:Int)+((ls[i].length:Nat):Int)) (by omega) (by omega),show (a:Int)+((ls[i].length:Nat):Int)=((a+ls[i].length:Nat):Int) by omega,Zaf (n:=(i:Int)+1) (by omega) (by omega),show (i:Int)+1=((i+1:Nat):Int) by omega]
  have hcm:((((leB 33639248 4++leB 20 2)++((ls[i].take 30).drop 4))++leB 0 10)++leB a 4)++((ls[i].take (30+leN ls[i] 26 2)).drop 30)=Zje ls[i] a:=rfl
  have L:∀n k,(leB n k).length=k:=ZaN
  have l1:((ls[i].take 30).drop 4).length=26:=by rw [List.length_drop,List.length_take];omega
  have l2:((ls[i].take (30+leN ls[i] 26 2)).drop 30).length=leN ls[i] 26 2:=by rw [List.length_drop,List.length_take];omega
  rw [Zad (by simp only [L];omega),Zab _ (by simp;omega),Zab _ (by decide),Zad (by simp only [List.length_append,L,l1];omega),Zad (by simp only [List.length_append,L,l1];omega),Zad (by simp only [List.length_append,L,l1];omega),
   Zab _ (by simp;omega),Zab _ (by simp;omega),Zad (by simp only [List.length_append,L,l1,l2];omega),Zad (by rw [hcm,hc];omega),hcm,ih,List.drop_eq_getElem_cons hi]
  simp only [ZcI,ZfG,List.map_cons,List.sum_cons,List.append_assoc,Nat.add_assoc]
theorem Zzb (ls:List Str) (h:∀l∈ls,Zql l):ZfG ls≤1048576*ls.length:=by
 induction ls with
 | nil=>simp [ZfG]
 | cons l r ih=>
  have h1:=(h l (by simp)).2
  have h2:=ih (fun x hx=>h x (by simp [hx]))
  simp only [ZfG,List.map_cons,List.sum_cons,List.length_cons] at h2 ⊢
  omega
theorem Zpe (ls:List Str) (hn:ls.length≤1000) (hL:∀l∈ls,Zql l):ZbL ls=some (ZeW ls):=by
 have h:=Zpd ls hn hL ls.length 0 [] 0 (by omega) (by simp) (by omega)
 rw [show ((0:Nat):Int)=0 from rfl,List.drop_zero,List.nil_append,Nat.zero_add] at h
 have hh:=ZpY ls hL 0
 have hs:=Zzb ls hL
 have n1:=ZcF ls.length 2 (by omega) (by omega)
 have n2:=ZcF 0 4 (by omega) (by omega)
 have n3:=ZcF (ZcI ls 0).length 4 (by omega) (by omega)
 have n4:=ZcF (ZfG ls) 4 (by omega) (by omega)
 have n5:=ZcF 0 2 (by omega) (by omega)
 rw [show ((2:Nat):Int)=2 from rfl] at n1
 rw [show ((0:Nat):Int)=0 from rfl,show ((4:Nat):Int)=4 from rfl] at n2
 rw [show ((4:Nat):Int)=4 from rfl] at n3 n4
 rw [show ((0:Nat):Int)=0 from rfl,show ((2:Nat):Int)=2 from rfl] at n5
 have L:∀n k,(leB n k).length=k:=ZaN
 have hm:([80,75,5,6]:Str)=leB 101010256 4:=by decide
 unfold ZbL
 rw [ZaG,h]
 simp only [Zaa]
 rw [n1,n2,n3,n4,n5,hm]
 simp only [Zaa]
 rw [Zad (by simp only [L];omega),Zad (by simp only [List.length_append,L];omega),Zad (by simp only [List.length_append,L];omega),Zad (by simp only [List.length_append,L];omega),Zad (by simp only [List.length_append,L];omega),
  Zad (by simp only [List.length_append,L];omega),Zad (by simp only [List.length_append,L];omega)]
 unfold ZeW ZvE
 simp only [List.append_assoc]
end Ev
end
section
namespace Ev
open Go
theorem Zf7 {s:Str} {e:Fil} {n:Nat} (h:ZhV s=some (e,n)):n=30+leN s 26 2+leN s 18 4∧n≤s.length∧e.1=(s.drop 30).take (leN s 26 2):=by
 unfold ZhV at h
 split at h
 ·cases h
 ·split at h
  ·cases h
  ·split at h
   ·cases h
   ·split at h
    ·obtain ⟨rfl,rfl⟩:=Prod.mk.inj (Option.some.inj h)
     exact ⟨rfl,by omega,rfl⟩
    ·cases h
theorem ZpN (s:Str) (n a k:Nat) (h:a+k≤n):leN (s.take n) a k=leN s a k:=by
 unfold leN
 rw [List.drop_take,List.take_take,Nat.min_eq_left (by omega)]
theorem ZsT {s:Str} {e:Fil} {n:Nat} (h:ZhV s=some (e,n)) (hs:s.length≤1048576):Zql (s.take n)∧e.1.length≤1048576:=by
 obtain ⟨h1,h2,h3⟩:=Zf7 h
 refine ⟨⟨?_,by rw [List.length_take];omega⟩,by rw [h3,List.length_take,List.length_drop];omega⟩
 rw [ZpN s n 26 2 (by omega),List.length_take];omega
def ZbB:Nat→Str→List Fil×List Str×Str
 | 0,s=>([],[],s)
 | k+1,s=>match ZhV s with
  | none=>([],[],s)
  | some (e,n)=>(e::(ZbB k (s.drop n)).1,s.take n::(ZbB k (s.drop n)).2.1,(ZbB k (s.drop n)).2.2)
def Za3 (s:Str):Option (List Fil):=if ZdD (ZbB 6 s).1=true∧(ZbB 6 s).2.2=ZeW (ZbB 6 s).2.1 then some (ZbB 6 s).1 else none
theorem Zmr:∀(k:Nat) (s:Str),s.length≤1048576→(ZbB k s).1.length≤k∧(ZbB k s).2.1.length≤k∧(∀e∈(ZbB k s).1,e.1.length≤1048576)∧∀l∈(ZbB k s).2.1,Zql l
 | 0,s,hs=>by simp [ZbB]
 | k+1,s,hs=>by
  rw [ZbB]
  cases h:ZhV s with
  | none=>simp
  | some p=>
   obtain ⟨e,n⟩:=p
   have h1:=ZsT h hs
   obtain ⟨q1,q2,q3,q4⟩:=Zmr k (s.drop n) (by rw [List.length_drop];omega)
   refine ⟨by simp;omega,by simp;omega,fun x hx=>?_,fun x hx=>?_⟩
   ·rcases List.mem_cons.1 hx with rfl | hx
    ·exact h1.2
    ·exact q3 x hx
   ·rcases List.mem_cons.1 hx with rfl | hx
    ·exact h1.1
    ·exact q4 x hx
theorem Zqt:∀(k:Nat) (s:Str) (out:List Fil) (ls:List Str),s.length≤1048576→out.length+k=6→ls.length≤6→
  ls.length=out.length→ZaA.l0 (k+1) (s,out,ls)=some ((ZbB k s).2.2,out++(ZbB k s).1,ls++(ZbB k s).2.1)
 | 0,s,out,ls,hs,h,hl,he=>by
  rw [ZaA.l0.succ];simp only [ZaA.l0.step]
  rw [decide_eq_false (by omega),cond_false];simp [ZbB]
 | k+1,s,out,ls,hs,h,hl,he=>by
  rw [ZaA.l0.succ];simp only [ZaA.l0.step]
  rw [decide_eq_true (by omega),cond_true,ZsR s hs,ZbB]
  simp only [Zaa]
  cases hm:ZhV s with
  | none=>simp [ZyT]
  | some p=>
   obtain ⟨e,n⟩:=p
   have h1:=Zf7 hm
   unfold ZyT
   dsimp only
   rw [Bool.not_true,cond_false,Zad (by simp;omega),Zab _ (by simp;omega),Zad (by simp;omega),Int.toNat_natCast,Zab _ (by simp;omega),
    Zqt k (s.drop n) _ _ (by rw [List.length_drop];omega) (by simp;omega) (by simp;omega) (by simp;omega)]
   simp
def Zpk:Option (List Fil)→Bool×List Fil
 | none=>(false,[])
 | some es=>(true,es)
theorem Zeg (s:Str) (hs:s.length≤1048576):ZaA s=some (Zpk (Za3 s)):=by
 have h:=Zqt 6 s [] [] hs rfl (by simp) rfl
 obtain ⟨q1,q2,q3,q4⟩:=Zmr 6 s hs
 unfold ZaA
 rw [List.length_nil,show ((6-((0:Nat):Int)).toNat+1)=6+1 from rfl,h]
 simp only [Zaa,List.nil_append]
 rw [Ztm _ (by omega) q3]
 simp only [Zaa]
 unfold Za3
 cases hz:ZdD (ZbB 6 s).1 with
 | false=>
  rw [if_neg (by simp)];rfl
 | true=>
  simp only [Bool.not_true,cond_false]
  rw [Zpe _ (by omega) q4]
  simp only [Zaa]
  by_cases hc:(ZbB 6 s).2.2=ZeW (ZbB 6 s).2.1
  ·rw [if_pos ⟨trivial,hc⟩,hc,beq_self_eq_true];rfl
  ·rw [if_neg (fun q=>hc q.2),beq_false_of_ne hc];rfl
end Ev
end
section
namespace Ev
open Go
theorem ZtU (many long a:Nat) (h1:many≤100000) (h2:long≤1000000000000) (h3:a≤1000000000000):ZhF (many:Int) (long:Int) (a:Int)=some (ZvE many long a):=by
 have n1:=Zbg many 2 (by omega) (by omega)
 have n2:=Zbg 0 2 (by omega) (by omega)
 have n3:=Zbg long 4 (by omega) (by omega)
 have n4:=Zbg a 4 (by omega) (by omega)
 have n5:=Zbg 101010256 4 (by omega) (by omega)
 rw [show ((2:Nat):Int)=2 from rfl] at n1
 rw [show ((0:Nat):Int)=0 from rfl,show ((2:Nat):Int)=2 from rfl] at n2
 rw [show ((4:Nat):Int)=4 from rfl] at n3 n4
 rw [show ((101010256:Nat):Int)=101010256 from rfl,show ((4:Nat):Int)=4 from rfl] at n5
 have L:∀n k,(leB n k).length=k:=ZaN
 have z:leB 0 4=leB 0 2++leB 0 2:=by decide
 unfold ZhF
 rw [n1,n2,n3,n4,n5]
 simp only [Zaa]
 rw [Zad (by simp only [L];omega),Zad (by simp only [List.length_append,L];omega),Zad (by simp only [List.length_append,L];omega),Zad (by simp only [List.length_append,L];omega),Zad (by simp only [List.length_append,L];omega),
  Zad (by simp only [List.length_append,L];omega),Zad (by simp only [List.length_append,L];omega)]
 unfold ZvE
 rw [z]
 simp only [List.append_assoc]
theorem Zjb (many long a:Nat):(ZvE many long a).length=22:=by
 unfold ZvE;simp only [List.length_append,ZaN]
theorem Zww {s:Str} (h:leN s 0 4≠67324752):ZhV s=none:=by
 unfold ZhV
 split
 ·rfl
 ·split
  ·rfl
  ·split
   ·rfl
   ·rw [if_neg (fun q=>h q.2.2.2.1)]
theorem ZsX (n k:Nat) (r:Str) (hn:n<256^k):leN (leB n k++r) 0 k=n:=by
 unfold leN
 rw [List.drop_zero,List.take_append_of_le_length (by rw [ZaN];exact Nat.le_refl _),List.take_of_length_le (by rw [ZaN];exact Nat.le_refl _),ZsW,Nat.mod_eq_of_lt hn]
theorem Znr (ls:List Str) (a m lo at_:Nat):ZhV (ZcI ls a++ZvE m lo at_)=none:=by
 apply Zww
 cases ls with
 | nil=>
  unfold ZvE ZcI
  simp only [List.nil_append,List.append_assoc]
  rw [ZsX _ _ _ (by omega)];omega
 | cons l r=>
  unfold ZcI Zje
  simp only [List.append_assoc]
  rw [ZsX _ _ _ (by omega)];omega
end Ev
end
section
namespace Ev
open Go
def sub (s:Str) (i j:Nat):Str:=(s.take j).drop i
def ZiU (s:Str) (h a:Nat):Prop:=h+46+leN s (h+28) 2≤s.length∧a+30+leN s (h+28) 2≤s.length∧
 sub s (h+6) (h+32)=sub s (a+4) (a+30)∧sub s (h+46) (h+(46+leN s (h+28) 2))=sub s (a+30) (a+30+leN s (h+28) 2)∧
 sub s h (h+6)=leB 33639248 4++leB 20 2∧sub s (h+32) (h+46)=leB 0 10++leB a 4
set_option maxRecDepth 100000 in
theorem ZwD (s:Str) (hs:s.length≤1048576) (h a:Nat) (hh:h≤2000000) (ha:a≤2000000) :
  Ret (Zgr s (h:Int) (a:Int)) fun r=>(r.2=true↔ZiU s h a)∧(ZiU s h a→r.1=((46+leN s (h+28) 2:Nat):Int)):=by
 unfold Zgr
 have two:=Zg1 s (h+28) 2
 have q:=ZpP s (h+28) 2 (by omega) (by omega) (by omega) (by omega)
 rw [show ((2:Nat):Int)=2 from rfl] at q
 rw [Zaf (n:=(h:Int)+28) (by omega) (by omega),show (h:Int)+28=((h+28:Nat):Int) by omega,q]
 simp only [Zaa]
 by_cases c30:h+28+2≤s.length
 ·rw [if_pos c30,decide_eq_false (show ¬((leN s (h+28) 2:Nat):Int)<0 by omega),cond_false,
   Zaf (n:=46+((leN s (h+28) 2:Nat):Int)) (by omega) (by omega),Zaf (n:=(h:Int)+(46+((leN s (h+28) 2:Nat):Int))) (by omega) (by omega),Zaf (n:=(a:Int)+30) (by omega) (by omega),Zaf (n:=(a:Int)+30+((leN s (h+28) 2:Nat):Int)) (by omega) (by omega)]
  by_cases c1:h+46+leN s (h+28) 2≤s.length
  ·by_cases c2:a+30+leN s (h+28) 2≤s.length
   ·rw [decide_eq_false (by omega),cond_false,decide_eq_false (by omega)]
    simp only [Zaa,cond_false]
    have n1:=Zbg 33639248 4 (by omega) (by omega)
    have n2:=Zbg 20 2 (by omega) (by omega)
    have n3:=Zbg 0 10 (by omega) (by omega)
    have n4:=Zbg a 4 (by omega) (by omega)
    rw [show ((33639248:Nat):Int)=33639248 from rfl,show ((4:Nat):Int)=4 from rfl] at n1
    rw [show ((20:Nat):Int)=20 from rfl,show ((2:Nat):Int)=2 from rfl] at n2
    rw [show ((0:Nat):Int)=0 from rfl,show ((10:Nat):Int)=10 from rfl] at n3
    rw [show ((4:Nat):Int)=4 from rfl] at n4
    rw [n1,n2,n3,n4]
    simp only [Zaa]
    rw [Zaf (n:=(h:Int)+32) (by omega) (by omega),Zaf (n:=(h:Int)+6) (by omega) (by omega),Zaf (n:=(a:Int)+4) (by omega) (by omega),Zaf (n:=(h:Int)+46) (by omega) (by omega)]
    rw [show (h:Int)+32=((h+32:Nat):Int) by omega,show (h:Int)+6=((h+6:Nat):Int) by omega,show (a:Int)+4=((a+4:Nat):Int) by omega,show (h:Int)+46=((h+46:Nat):Int) by omega,show (a:Int)+30+((leN s (h+28) 2:Nat):Int)=((a+30+leN s (h+28) 2:Nat):Int) by omega,
     show (a:Int)+30=((a+30:Nat):Int) by omega,show (h:Int)+(46+((leN s (h+28) 2:Nat):Int))=((h+(46+leN s (h+28) 2):Nat):Int) by omega]
    simp only [Int.toNat_natCast]
    have L:∀n k,(leB n k).length=k:=ZaN
    repeat rw [Zab _ (by simp;omega)]
    repeat rw [Zad (by simp only [L];omega)]
    repeat rw [Zab _ (by simp;omega)]
    repeat rw [Zad (by simp only [L];omega)]
    repeat rw [Zab _ (by simp;omega)]
    have hH:ZiU s h a↔(((sub s (h+6) (h+32)==sub s (a+4) (a+30))=true∧(sub s (h+46) (h+(46+leN s (h+28) 2))==sub s (a+30) (a+30+leN s (h+28) 2))=true)∧
      (sub s h (h+6)==leB 33639248 4++leB 20 2)=true∧(sub s (h+32) (h+46)==leB 0 10++leB a 4)=true):=by
     unfold ZiU
     simp only [beq_iff_eq]
     constructor
     ·rintro ⟨_,_,q1,q2,q3,q4⟩;exact ⟨⟨q1,q2⟩,q3,q4⟩
     ·rintro ⟨⟨q1,q2⟩,q3,q4⟩;exact ⟨c1,c2,q1,q2,q3,q4⟩
    rw [hH]
    unfold sub
    generalize (((s.take (h+32)).drop (h+6))==((s.take (a+30)).drop (a+4)))=b1
    generalize (((s.take (h+(46+leN s (h+28) 2))).drop (h+46))==((s.take (a+30+leN s (h+28) 2)).drop (a+30)))=b2
    generalize (((s.take (h+6)).drop h)==leB 33639248 4++leB 20 2)=b3
    generalize (((s.take (h+46)).drop (h+32))==leB 0 10++leB a 4)=b4
    cases b1<;>cases b2<;>cases b3<;>cases b4<;>refine ⟨(46+((leN s (h+28) 2:Nat):Int),_),rfl,by simp,fun _=>by first | omega | (dsimp only;omega)⟩
   ·rw [decide_eq_false (by omega),cond_false,decide_eq_true (by omega)]
    exact ⟨_,rfl,⟨fun q=>absurd q (by simp),fun q=>absurd q.2.1 c2⟩,fun q=>absurd q.2.1 c2⟩
  ·rw [decide_eq_true (by omega),cond_true]
   exact ⟨_,rfl,⟨fun q=>absurd q (by simp),fun q=>absurd q.1 c1⟩,fun q=>absurd q.1 c1⟩
 ·rw [if_neg c30]
  have hz:¬ZiU s h a:=fun q=>by have:=q.1;omega
  exact ⟨_,rfl,⟨fun q=>absurd q (by simp),fun q=>absurd q hz⟩,fun q=>absurd q hz⟩
end Ev
end
section
namespace Ev
open Go
def Ze2:Nat→Str→Option (List Fil×List Str)
 | 0,_=>some ([],[])
 | k+1,s=>match ZhV s with
  | none=>none
  | some (e,n)=>(Ze2 k (s.drop n)).map fun p=>(e::p.1,s.take n::p.2)
theorem ZtT (s:Str) (hs:s.length≤1048576) (K:Nat) (hK:K≤1000):∀(k i a:Nat) (out:List Fil),i+k=K→a≤s.length→out.length=i→
  Ret (Zfl.l0 (k+1) (s,(K:Int),(a:Int),(i:Int),out)) fun r=>match Ze2 k (s.drop a) with
   | some (es,ls)=>r=.inl (((a+ZfG ls:Nat):Int),out++es)
   | none=>∃a' o',r=.inr (a',false,o')
 | 0,i,a,out,h,ha,ho=>by
  rw [Zfl.l0.succ];simp only [Zfl.l0.step]
  rw [ZaR (by omega)]
  exact .pure (by simp [Ze2,ZfG])
 | k+1,i,a,out,h,ha,ho=>by
  rw [Zfl.l0.succ];simp only [Zfl.l0.step]
  obtain ⟨r,er,hp⟩:=Zro (s.drop a) (by rw [List.length_drop];omega)
  rw [ZaQ (by omega),cond_true,Zab _ (by simp;omega),Int.toNat_natCast,er,Ze2]
  simp only [Zaa]
  unfold Zqi at hp
  cases hm:ZhV (s.drop a) with
  | none=>
   rw [hm] at hp
   dsimp only at hp
   rw [hp]
   exact .pure ⟨_,_,rfl⟩
  | some p=>
   obtain ⟨e,n⟩:=p
   rw [hm] at hp
   have hsp:=Zf7 hm
   rw [List.length_drop] at hsp
   subst hp
   unfold ZyT
   dsimp only
   rw [Bool.not_true,cond_false,Zad (by simp;omega),Zaf (n:=(a:Int)+(n:Int)) (by omega) (by omega),show (a:Int)+(n:Int)=((a+n:Nat):Int) by omega,Zaf (by omega) (by omega),show (i:Int)+1=((i+1:Nat):Int) by omega]
   refine (ZtT s hs K hK k (i+1) (a+n) _ (by omega) (by omega) (by simp;omega)).mono ?_
   intro r hr
   rw [List.drop_drop]
   cases hk:Ze2 k (s.drop (a+n)) with
   | none=>rw [hk] at hr;exact hr
   | some q=>
    obtain ⟨es,ls⟩:=q
    rw [hk] at hr
    dsimp only [Option.map_some]
    have hln:((s.drop a).take n).length=n:=by rw [List.length_take,List.length_drop];omega
    rw [hr]
    simp [ZfG,hln,Nat.add_assoc]
end Ev
end
section
namespace Ev
open Go
theorem ZiF (s:Str) (i j:Nat):sub s i j=(s.drop i).take (j-i):=by unfold sub;rw [List.drop_take]
theorem ZgT (s:Str) {i j k:Nat} (h1:i≤j) (h2:j≤k):sub s i k=sub s i j++sub s j k:=by
 rw [ZiF,ZiF,ZiF,show k-i=(j-i)+(k-j) by omega,List.take_add,List.drop_drop,show i+(j-i)=j by omega]
theorem Zki (s:Str) {i j p q:Nat} (h:i+p+q≤j):((sub s i j).drop p).take q=sub s (i+p) (i+p+q):=by
 rw [ZiF,ZiF,List.drop_take,List.take_take,List.drop_drop,Nat.min_eq_left (by omega),show i+p+q-(i+p)=q by omega]
theorem ZdH (s:Str) {i j:Nat} (h1:i≤j) (h2:j≤s.length):(sub s i j).length=j-i:=by
 rw [ZiF,List.length_take,List.length_drop];omega
theorem ZkB (s:Str) (a k:Nat):leN s a k=leV (sub s a (a+k)):=by
 unfold leN;rw [ZiF,show a+k-a=k by omega]
theorem ZlP (s:Str) (a b k:Nat):leN (s.drop a) b k=leN s (a+b) k:=by
 unfold leN;rw [List.drop_drop]
theorem ZkX (s:Str) (a n:Nat) (hn:30+leN s (a+26) 2≤n) :
  Zje ((s.drop a).take n) a=(leB 33639248 4++leB 20 2)++(sub s (a+4) (a+30)++((leB 0 10++leB a 4)++sub s (a+30) (a+30+leN s (a+26) 2))):=by
 have e:leN ((s.drop a).take n) 26 2=leN s (a+26) 2:=by rw [ZpN _ _ _ _ (by omega),ZlP]
 unfold Zje
 rw [e]
 have p1:(((s.drop a).take n).take 30).drop 4=sub s (a+4) (a+30):=by
  rw [List.take_take,Nat.min_eq_left (by omega),List.drop_take,List.drop_drop,ZiF,show a+30-(a+4)=30-4 by omega]
 have p2:(((s.drop a).take n).take (30+leN s (a+26) 2)).drop 30=sub s (a+30) (a+30+leN s (a+26) 2):=by
  rw [List.take_take,Nat.min_eq_left (by omega),List.drop_take,List.drop_drop,ZiF];congr 1;omega
 rw [p1,p2]
 simp only [List.append_assoc]
theorem ZwU (s:Str) (a h n:Nat) (hn:30+leN s (a+26) 2≤n) (ha:a+n≤s.length) :
  ZiU s h a↔(s.drop h).take (46+leN s (a+26) 2)=Zje ((s.drop a).take n) a:=by
 have L:∀n k,(leB n k).length=k:=ZaN
 rw [ZkX s a n hn]
 have e0:(s.drop h).take (46+leN s (a+26) 2)=sub s h (h+(46+leN s (a+26) 2)):=by
  rw [ZiF];congr 1;omega
 constructor
 ·rintro ⟨h1,h2,q1,q2,q3,q4⟩
  have e:leN s (h+28) 2=leN s (a+26) 2:=by
   rw [ZkB,ZkB]
   have r1:=Zki s (i:=h+6) (j:=h+32) (p:=22) (q:=2) (by omega)
   have r2:=Zki s (i:=a+4) (j:=a+30) (p:=22) (q:=2) (by omega)
   rw [q1,r2] at r1
   rw [show h+6+22=h+28 by omega,show a+4+22=a+26 by omega] at r1
   rw [r1]
  rw [e] at h1 h2 q2
  rw [e0,ZgT s (i:=h) (j:=h+6) (by omega) (by omega),ZgT s (i:=h+6) (j:=h+32) (by omega) (by omega),ZgT s (i:=h+32) (j:=h+46) (by omega) (by omega),q1,q2,q3,q4]
 ·intro q
  have hl:((s.drop h).take (46+leN s (a+26) 2)).length=46+leN s (a+26) 2:=by
   rw [q]
   simp only [List.length_append,L]
   rw [ZdH s (by omega) (by omega),ZdH s (by omega) (by omega)]
   omega
  rw [List.length_take,List.length_drop] at hl
  have hb:h+46+leN s (a+26) 2≤s.length:=by omega
  rw [e0,ZgT s (i:=h) (j:=h+6) (by omega) (by omega),ZgT s (i:=h+6) (j:=h+32) (by omega) (by omega),ZgT s (i:=h+32) (j:=h+46) (by omega) (by omega)] at q
  obtain ⟨q3,q⟩:=List.append_inj q (by rw [ZdH s (by omega) (by omega)];simp only [List.length_append,L];omega)
  obtain ⟨q1,q⟩:=List.append_inj q (by rw [ZdH s (by omega) (by omega),ZdH s (by omega) (by omega)];omega)
  obtain ⟨q4,q2⟩:=List.append_inj q (by rw [ZdH s (by omega) (by omega)];simp only [List.length_append,L];omega)
  have e:leN s (h+28) 2=leN s (a+26) 2:=by
   rw [ZkB,ZkB]
   have r1:=Zki s (i:=h+6) (j:=h+32) (p:=22) (q:=2) (by omega)
   have r2:=Zki s (i:=a+4) (j:=a+30) (p:=22) (q:=2) (by omega)
   rw [q1,r2] at r1
   rw [show h+6+22=h+28 by omega,show a+4+22=a+26 by omega] at r1
   rw [r1]
  unfold ZiU
  rw [e]
  exact ⟨hb,by omega,q1,q2,q3,q4⟩
def Zid (s:Str):List Str→Nat→Nat→Prop
 | [],_,_=>True
 | l::r,h,a=>ZiU s h a∧Zid s r (h+(46+leN l 26 2)) (a+l.length)
theorem ZqB {α:Type} (x p q:List α):x.take (p.length+q.length)=p++q↔x.take p.length=p∧(x.drop p.length).take q.length=q:=by
 rw [List.take_add]
 constructor
 ·intro e
  by_cases h:p.length≤x.length
  ·exact List.append_inj e (by rw [List.length_take];omega)
  ·have h1:=congrArg List.length e
   simp only [List.length_append,List.length_take,List.length_drop] at h1
   omega
 ·rintro ⟨e1,e2⟩;rw [e1,e2]
theorem Zrg {s:Str} {a n:Nat} {e:Fil} (h:ZhV (s.drop a)=some (e,n)):30+leN s (a+26) 2≤n∧n≤s.length-a∧((s.drop a).take n).length=n∧leN ((s.drop a).take n) 26 2=leN s (a+26) 2:=by
 obtain ⟨h1,h2,h3⟩:=Zf7 h
 rw [List.length_drop] at h2
 rw [ZlP] at h1
 refine ⟨by omega,h2,by rw [List.length_take,List.length_drop];omega,by rw [ZpN _ _ _ _ (by omega),ZlP]⟩
theorem ZqN:∀(k:Nat) (s:Str) {es:List Fil} {ls:List Str},Ze2 k s=some (es,ls)→ls.length=k∧es.length=k
 | 0,s,es,ls,h=>by
  obtain ⟨rfl,rfl⟩:=Prod.mk.inj (Option.some.inj h);exact ⟨rfl,rfl⟩
 | k+1,s,es,ls,h=>by
  rw [Ze2] at h
  cases hm:ZhV s with
  | none=>rw [hm] at h;cases h
  | some p=>
   obtain ⟨e,n⟩:=p
   rw [hm] at h
   dsimp only at h
   cases hk:Ze2 k (s.drop n) with
   | none=>rw [hk] at h;cases h
   | some q=>
    rw [hk] at h
    obtain ⟨rfl,rfl⟩:=Prod.mk.inj (Option.some.inj h)
    have:=ZqN k (s.drop n) (es:=q.1) (ls:=q.2) hk
    simp [this.1,this.2]
theorem ZrG (s:Str):∀(k:Nat) (a h:Nat) {es:List Fil} {ls:List Str},a≤s.length→Ze2 k (s.drop a)=some (es,ls)→
  (Zid s ls h a↔(s.drop h).take (ZcI ls a).length=ZcI ls a)
 | 0,a,h,es,ls,ha,hr=>by
  obtain ⟨rfl,rfl⟩:=Prod.mk.inj (Option.some.inj hr)
  simp [Zid,ZcI]
 | k+1,a,h,es,ls,ha,hr=>by
  rw [Ze2] at hr
  cases hm:ZhV (s.drop a) with
  | none=>rw [hm] at hr;cases hr
  | some p=>
   obtain ⟨e,n⟩:=p
   rw [hm] at hr
   dsimp only at hr
   obtain ⟨h1,h2,h3,h4⟩:=Zrg hm
   rw [List.drop_drop] at hr
   cases hk:Ze2 k (s.drop (a+n)) with
   | none=>rw [hk] at hr;cases hr
   | some q=>
    obtain ⟨es',ls'⟩:=q
    rw [hk] at hr
    obtain ⟨rfl,rfl⟩:=Prod.mk.inj (Option.some.inj hr)
    have hc:(Zje ((s.drop a).take n) a).length=46+leN s (a+26) 2:=by
     rw [ZkX s a n h1]
     simp only [List.length_append,ZaN]
     rw [ZdH s (by omega) (by omega),ZdH s (by omega) (by omega)]
     omega
    have ih:=ZrG s k (a+n) (h+(46+leN s (a+26) 2)) (by omega) hk
    unfold Zid ZcI
    rw [h3,h4,ZwU s a h n h1 (by omega),ih,List.length_append,ZqB,hc,List.drop_drop]
theorem Zlf:∀(K:Nat) (s:Str),Ze2 (ZbB K s).2.1.length s=some ((ZbB K s).1,(ZbB K s).2.1)∧(ZbB K s).2.2=s.drop (ZfG (ZbB K s).2.1)
 | 0,s=>by simp [ZbB,Ze2,ZfG]
 | K+1,s=>by
  cases hm:ZhV s with
  | none=>simp [ZbB,hm,Ze2,ZfG]
  | some p=>
   obtain ⟨e,n⟩:=p
   obtain ⟨h1,h2⟩:=Zlf K (s.drop n)
   obtain ⟨_,hn,_⟩:=Zf7 hm
   have e1:ZbB (K+1) s=(e::(ZbB K (s.drop n)).1,s.take n::(ZbB K (s.drop n)).2.1,(ZbB K (s.drop n)).2.2):=by rw [ZbB,hm]
   rw [e1]
   dsimp only
   rw [List.length_cons,Ze2,hm]
   dsimp only
   rw [h1]
   refine ⟨rfl,?_⟩
   rw [h2,List.drop_drop]
   simp only [ZfG,List.map_cons,List.sum_cons,List.length_take]
   congr 1;omega
theorem Zlg:∀(k:Nat) (s:Str) {es:List Fil} {ls:List Str},Ze2 k s=some (es,ls)→∀K,k≤K→ZhV (s.drop (ZfG ls))=none→ZbB K s=(es,ls,s.drop (ZfG ls))
 | 0,s,es,ls,h,K,hK,hs=>by
  obtain ⟨rfl,rfl⟩:=Prod.mk.inj (Option.some.inj h)
  have hs:ZhV s=none:=by simpa [ZfG] using hs
  cases K with
  | zero=>simp [ZbB,ZfG]
  | succ K=>simp [ZbB,hs,ZfG]
 | k+1,s,es,ls,h,K,hK,hs=>by
  rw [Ze2] at h
  cases hm:ZhV s with
  | none=>rw [hm] at h;cases h
  | some p=>
   obtain ⟨e,n⟩:=p
   rw [hm] at h
   dsimp only at h
   cases hk:Ze2 k (s.drop n) with
   | none=>rw [hk] at h;cases h
   | some q=>
    obtain ⟨es',ls'⟩:=q
    rw [hk] at h
    obtain ⟨rfl,rfl⟩:=Prod.mk.inj (Option.some.inj h)
    obtain ⟨_,hn,_⟩:=Zf7 hm
    have es1:ZfG (s.take n::ls')=n+ZfG ls':=by
     simp only [ZfG,List.map_cons,List.sum_cons,List.length_take];omega
    obtain ⟨K,rfl⟩:∃K',K=K'+1:=⟨K-1,by omega⟩
    have ih:=Zlg k (s.drop n) hk K (by omega) (by rw [List.drop_drop,←es1];exact hs)
    rw [ZbB,hm]
    dsimp only
    rw [ih,List.drop_drop,es1]
def ZvV (s:Str):Option (List Fil):=
 if s.length<12 then none else if 6<leN s (s.length-12) 2 then none else
  match Ze2 (leN s (s.length-12) 2) s with
  | none=>none
  | some (es,ls)=>if ZdD es=true∧s.drop (ZfG ls)=ZeW ls then some es else none
theorem Zrl (x y:Str) (b k:Nat):leN (x++y) (x.length+b) k=leN y b k:=by
 unfold leN;rw [←List.drop_drop,List.drop_left]
theorem Zw8 (many long a:Nat) (h:many<65536):leN (ZvE many long a) 10 2=many:=by
 have e:ZvE many long a=(leB 101010256 4++leB 0 4++leB many 2)++(leB many 2++(leB long 4++leB a 4++leB 0 2)):=by unfold ZvE;simp only [List.append_assoc]
 have:=Zrl (leB 101010256 4++leB 0 4++leB many 2) (leB many 2++(leB long 4++leB a 4++leB 0 2)) 0 2
 simp only [List.length_append,ZaN] at this
 rw [e,this,ZsX _ _ _ (by omega)]
theorem ZxJ (s:Str) (hs:s.length≤1048576):ZvV s=Za3 s:=by
 by_cases H:ZdD (ZbB 6 s).1=true∧(ZbB 6 s).2.2=ZeW (ZbB 6 s).2.1
 ·obtain ⟨h1,h2⟩:=Zlf 6 s
  obtain ⟨_,q2,_,_⟩:=Zmr 6 s hs
  unfold Za3
  rw [if_pos H]
  obtain ⟨H1,H2⟩:=H
  rw [h2] at H2
  have hl:=congrArg List.length H2
  unfold ZeW at hl
  rw [List.length_drop,List.length_append,Zjb] at hl
  have hm:leN s (s.length-12) 2=(ZbB 6 s).2.1.length:=by
   have e:s.length-12=ZfG (ZbB 6 s).2.1+((ZcI (ZbB 6 s).2.1 0).length+10):=by omega
   rw [e,←ZlP,H2]
   unfold ZeW
   rw [Zrl,Zw8 _ _ _ (by omega)]
  unfold ZvV
  rw [if_neg (by omega),hm,if_neg (by omega),h1]
  dsimp only
  rw [if_pos ⟨H1,H2⟩]
 ·unfold Za3
  rw [if_neg H]
  unfold ZvV
  split
  ·rfl
  ·split
   ·rfl
   ·cases hk:Ze2 (leN s (s.length-12) 2) s with
    | none=>rfl
    | some q=>
     obtain ⟨es,ls⟩:=q
     dsimp only
     split
     ·rename_i h6 hc
      exfalso
      have:=Zlg _ s hk 6 (by omega) (by rw [hc.2];exact Znr _ _ _ _ _)
      rw [this] at H
      exact H hc
     ·rfl
end Ev
end
section
namespace Ev
open Go
theorem ZrH {s:Str} {h a:Nat} (q:ZiU s h a):leN s (h+28) 2=leN s (a+26) 2:=by
 obtain ⟨h1,h2,q1,_⟩:=q
 rw [ZkB,ZkB]
 have r1:=Zki s (i:=h+6) (j:=h+32) (p:=22) (q:=2) (by omega)
 have r2:=Zki s (i:=a+4) (j:=a+30) (p:=22) (q:=2) (by omega)
 rw [q1,r2] at r1
 rw [show h+6+22=h+28 by omega,show a+4+22=a+26 by omega] at r1
 rw [r1]
theorem Zjo (s:Str) (hs:s.length≤1048576) (K:Nat) (hK:K≤1000) (at_:Int) (list:List Fil):∀(k i a h:Nat) {es:List Fil} {ls:List Str},i+k=K→a≤s.length→h≤s.length→Ze2 k (s.drop a)=some (es,ls)→
  Ret (Zap.l0 (k+1) (s,(K:Int),at_,(h:Int),(a:Int),(i:Int),list)) fun r=>
   (Zid s ls h a→r=.inl (s,(K:Int),at_,((h+(ZcI ls a).length:Nat):Int),list)∧h+(ZcI ls a).length≤s.length)∧(¬Zid s ls h a→r=.inr (false,[]))
 | 0,i,a,h,es,ls,hi,ha,hh,hr=>by
  obtain ⟨rfl,rfl⟩:=Prod.mk.inj (Option.some.inj hr)
  rw [Zap.l0.succ];simp only [Zap.l0.step]
  rw [ZaR (by omega)]
  exact .pure ⟨fun _=>⟨by simp [ZcI],by simpa [ZcI] using hh⟩,fun q=>absurd trivial q⟩
 | k+1,i,a,h,es,ls,hi,ha,hh,hr=>by
  rw [Ze2] at hr
  cases hm:ZhV (s.drop a) with
  | none=>rw [hm] at hr;cases hr
  | some p=>
   obtain ⟨e,n⟩:=p
   rw [hm] at hr
   dsimp only at hr
   obtain ⟨h1,h2,h3,h4⟩:=Zrg hm
   rw [List.drop_drop] at hr
   cases hk:Ze2 k (s.drop (a+n)) with
   | none=>rw [hk] at hr;cases hr
   | some q=>
    obtain ⟨es',ls'⟩:=q
    rw [hk] at hr
    obtain ⟨rfl,rfl⟩:=Prod.mk.inj (Option.some.inj hr)
    have hc:(Zje ((s.drop a).take n) a).length=46+leN s (a+26) 2:=by
     rw [ZkX s a n h1]
     simp only [List.length_append,ZaN]
     rw [ZdH s (by omega) (by omega),ZdH s (by omega) (by omega)]
     omega
    rw [Zap.l0.succ];simp only [Zap.l0.step]
    rw [ZaQ (by omega),cond_true]
    refine .bind (ZwD s hs h a (by omega) (by omega)) ?_
    rintro ⟨r3,r4⟩ ⟨g1,g2⟩
    dsimp only at g1 g2 ⊢
    cases r4 with
    | false=>
     have hn:¬ZiU s h a:=fun q=>by have:=g1.2 q;cases this
     exact .pure ⟨fun q=>absurd q.1 hn,fun _=>rfl⟩
    | true=>
     have hH:=g1.1 rfl
     have g2:=g2 hH
     rw [ZrH hH] at g2
     have hb:=hH.1
     rw [ZrH hH] at hb
     subst g2
     rw [Bool.not_true,cond_false,Zab _ (by simp;omega),Int.toNat_natCast]
     obtain ⟨r,er,hp⟩:=Zro (s.drop a) (by rw [List.length_drop];omega)
     unfold Zqi at hp
     rw [hm] at hp
     dsimp only at hp
     subst hp
     rw [er]
     unfold ZyT
     dsimp only
     simp only [Zaa]
     have two:=Zg1 s (a+26) 2
     rw [Zaf (n:=(h:Int)+((46+leN s (a+26) 2:Nat):Int)) (by omega) (by omega),Zaf (n:=(a:Int)+(n:Int)) (by omega) (by omega),Zaf (n:=(i:Int)+1) (by omega) (by omega),
      show (h:Int)+((46+leN s (a+26) 2:Nat):Int)=((h+(46+leN s (a+26) 2):Nat):Int) by omega,show (a:Int)+(n:Int)=((a+n:Nat):Int) by omega,show (i:Int)+1=((i+1:Nat):Int) by omega]
     refine (Zjo s hs K hK at_ list k (i+1) (a+n) (h+(46+leN s (a+26) 2)) (by omega) (by omega) (by omega) hk).mono ?_
     rintro r ⟨f1,f2⟩
     unfold Zid ZcI
     rw [h3,h4,List.length_append,hc]
     refine ⟨fun q=>?_,fun q=>f2 fun q'=>q ⟨hH,q'⟩⟩
     obtain ⟨f,f'⟩:=f1 q.2
     exact ⟨by rw [f,Nat.add_assoc],by omega⟩
theorem ZqM:∀(k:Nat) (s:Str) {es:List Fil} {ls:List Str},Ze2 k s=some (es,ls)→ZfG ls≤s.length∧(s.length≤1048576→∀e∈es,e.1.length≤1048576)∧(s.length≤1048576→∀l∈ls,Zql l)
 | 0,s,es,ls,h=>by
  obtain ⟨rfl,rfl⟩:=Prod.mk.inj (Option.some.inj h);simp [ZfG]
 | k+1,s,es,ls,h=>by
  rw [Ze2] at h
  cases hm:ZhV s with
  | none=>rw [hm] at h;cases h
  | some p=>
   obtain ⟨e,n⟩:=p
   rw [hm] at h
   dsimp only at h
   cases hk:Ze2 k (s.drop n) with
   | none=>rw [hk] at h;cases h
   | some q=>
    obtain ⟨es',ls'⟩:=q
    rw [hk] at h
    obtain ⟨rfl,rfl⟩:=Prod.mk.inj (Option.some.inj h)
    obtain ⟨i1,i2,i3⟩:=ZqM k (s.drop n) hk
    obtain ⟨_,hn,_⟩:=Zf7 hm
    rw [List.length_drop] at i1 i2 i3
    refine ⟨?_,fun hs=>?_,fun hs=>?_⟩
    ·simp only [ZfG,List.map_cons,List.sum_cons,List.length_take] at i1 ⊢;omega
    ·intro x hx
     rcases List.mem_cons.1 hx with rfl | hx
     ·exact (ZsT hm hs).2
     ·exact i2 (by omega) x hx
    ·intro x hx
     rcases List.mem_cons.1 hx with rfl | hx
     ·exact (ZsT hm hs).1
     ·exact i3 (by omega) x hx
theorem Zpz (s:Str) (hs:s.length≤1048576):Zap s=some (Zpk (ZvV s)):=by
 unfold Zap ZvV
 by_cases c12:s.length<12
 ·have e:Zcp s (w64 ((s.length:Int)-12)) 2=some (-1):=by
   rw [Zaf (by omega) (by omega)]
   unfold Zcp
   rw [decide_eq_true (by omega)];rfl
  rw [e,if_pos c12]
  rfl
 rw [if_neg c12,Zaf (n:=(s.length:Int)-12) (by omega) (by omega),show (s.length:Int)-12=((s.length-12:Nat):Int) by omega]
 have q:=ZpP s (s.length-12) 2 (by omega) (by omega) (by omega) (by omega)
 rw [show ((2:Nat):Int)=2 from rfl,if_pos (by omega)] at q
 have two:=Zg1 s (s.length-12) 2
 rw [q]
 simp only [Zaa]
 generalize leN s (s.length-12) 2=m at two
 rw [ZlR]
 simp only [Zaa]
 by_cases c6:6<m
 ·rw [if_pos c6,decide_eq_false (by omega)];rfl
 rw [if_neg c6,decide_eq_true (by omega),Bool.not_true,cond_false]
 obtain ⟨r,er,hr⟩:=ZtT s hs m (by omega) m 0 0 [] (by omega) (by omega) rfl
 rw [show ((0:Nat):Int)=0 from rfl] at er
 rw [List.drop_zero] at hr
 unfold Zfl
 rw [ZaG,er]
 simp only [Zaa]
 cases hk:Ze2 m s with
 | none=>
  rw [hk] at hr
  dsimp only at hr
  obtain ⟨a',o',rfl⟩:=hr
  rfl
 | some p=>
  obtain ⟨es,ls⟩:=p
  rw [hk] at hr
  dsimp only at hr
  subst hr
  obtain ⟨i1,i2,i3⟩:=ZqM m s hk
  obtain ⟨n1,n2⟩:=ZqN m s hk
  dsimp only
  simp only [Zaa,Nat.zero_add,List.nil_append,Bool.not_true,cond_false]
  rw [ZuA es (by omega) (i2 hs)]
  simp only [Zaa]
  cases hz:ZdD es with
  | false=>rw [if_neg (by simp)];rfl
  | true=>
   simp only [Bool.not_true,cond_false]
   obtain ⟨r,er,h1,h2⟩:=Zjo s hs m (by omega) ((ZfG ls:Nat):Int) es m 0 0 (ZfG ls) (by omega) (by omega) i1 (by rw [List.drop_zero];exact hk)
   rw [show ((0:Nat):Int)=0 from rfl] at er
   rw [er]
   simp only [Zaa]
   have hi:=ZrG s m 0 (ZfG ls) (Nat.zero_le _) (by rw [List.drop_zero];exact hk)
   by_cases hH:Zid s ls (ZfG ls) 0
   ·obtain ⟨rfl,hle⟩:=h1 hH
    have hH':=hi.1 hH
    dsimp only
    rw [Zab _ (by simp;omega),Zaf (by omega) (by omega),show (((ZfG ls+(ZcI ls 0).length:Nat):Int)-((ZfG ls:Nat):Int))=(((ZcI ls 0).length:Nat):Int) by omega,Int.toNat_natCast,ZtU m _ _ (by omega) (by omega) (by omega)]
    simp only [Zaa]
    have key:s.drop (ZfG ls)=ZeW ls↔s.drop (ZfG ls+(ZcI ls 0).length)=ZvE m (ZcI ls 0).length (ZfG ls):=by
     unfold ZeW
     rw [n1,←List.drop_drop]
     constructor
     ·intro e;rw [e,List.drop_left' rfl]
     ·intro e
      rw [←List.take_append_drop (ZcI ls 0).length (s.drop (ZfG ls)),hH',e]
    by_cases hc:s.drop (ZfG ls)=ZeW ls
    ·rw [if_pos ⟨trivial,hc⟩,key.1 hc,beq_self_eq_true];rfl
    ·rw [if_neg (fun q=>hc q.2),beq_false_of_ne (fun q=>hc (key.2 q))];rfl
   ·obtain rfl:=h2 hH
    have hc:¬s.drop (ZfG ls)=ZeW ls:=fun q=>hH (hi.2 (by rw [q];unfold ZeW;rw [List.take_left' rfl]))
    rw [if_neg (fun q=>hc q.2)]
    rfl
theorem Zd6 (s:Str) (hs:s.length≤1048576):Zap s=some (Zpk (Za3 s)):=by rw [Zpz s hs,ZxJ s hs]
end Ev
end
section
namespace Ev
open Go
def Tk.Pos (ls ds:List Nat):Tk→Prop
 | .lit c=>c<ls.length∧0<ls.getD c 0
 | .far l k=>(257+Zb2 ZaD l<ls.length∧0<ls.getD (257+Zb2 ZaD l) 0)∧Zb2 ZaV k<ds.length∧0<ds.getD (Zb2 ZaV k) 0
theorem ZgX (ns:List Nat) (hk:Zby ns≤32768) (h15:∀n∈ns,n≤15) (i:Nat) (hi:i<ns.length) (h0:0<ns.getD i 0) (rest:List Bool):Zlm ns (some (Zjj ns i++rest))=some (i,rest):=by
 rw [Zza ns h15 i hi h0];exact Zwq ns hk h15 i hi h0 rest
theorem Zfc (k n:Nat) (rest:List Bool):ZbQ k (some (ZbT n k++rest))=some rest:=by
 unfold ZbQ
 dsimp only
 rw [if_pos (by rw [List.length_append,Zaj];omega),List.drop_left' (Zaj n k)]
theorem Zeh (k n:Nat) (hn:n<2^k) (rest:List Bool):ZcD ((ZbT n k++rest).take k)=n:=by
 rw [List.take_left' (Zaj n k),Zl8,Nat.mod_eq_of_lt hn]
theorem Zwu (ds:List Nat) (hkd:Zby ds≤32768) (hd:∀n∈ds,n≤15) (go:List Bool→List Int→Option (List Bool×List Int)) (l k:Nat) (h:(Tk.far l k).Ok)
  (hp:Zb2 ZaV k<ds.length∧0<ds.getD (Zb2 ZaV k) 0) (out o:List Int) (rest:List Bool) (hf:Zqp out l k=some o) :
  ZoI ds go (Zb2 ZaD l) (ZbT (l-ZaD.getD (Zb2 ZaD l) 0) (ZcH.getD (Zb2 ZaD l) 0)++(Zjj ds (Zb2 ZaV k)++(ZbT (k-ZaV.getD (Zb2 ZaV k) 0) (Zds.getD (Zb2 ZaV k) 0)++rest))) out=go rest o:=by
 obtain ⟨h1,h2,h3,h4⟩:=h
 obtain ⟨_,_,a1,a2,a3⟩:=ZfF l h1 h2
 obtain ⟨_,_,b1,b2,b3⟩:=Zgk k h3 h4
 unfold ZoI
 rw [Zfc,ZgX ds hkd hd _ hp.1 hp.2]
 dsimp only
 rw [if_neg (by omega),Zfc]
 dsimp only
 rw [Zeh _ _ a3,Zeh _ _ b3,show ZaD.getD (Zb2 ZaD l) 0+(l-ZaD.getD (Zb2 ZaD l) 0)=l by omega,show ZaV.getD (Zb2 ZaV k) 0+(k-ZaV.getD (Zb2 ZaV k) 0)=k by omega,hf]
theorem ZmF (ls ds:List Nat) (hkl:Zby ls≤32768) (hkd:Zby ds≤32768) (hl:∀n∈ls,n≤15) (hd:∀n∈ds,n≤15) (he:256<ls.length∧0<ls.getD 256 0) (s:Str) (hs:s.length≤300) (rest:List Bool) :
  ∀(F a f:Nat),a≤s.length→s.length≤a+F→(Zfh s F a).length<f→(∀t∈Zfh s F a,t.Pos ls ds)→ZtL ls ds f (ZfX ls ds (Zfh s F a)++rest) (ints (s.take a))=some (rest,ints s)
 | 0,a,f,ha,hF,hf,hp=>by
  obtain ⟨f',rfl⟩:∃f',f=f'+1:=⟨f-1,by omega⟩
  rw [ZgW]
  unfold Zq7
  rw [if_neg (by rw [ZdV,List.length_take];omega)]
  simp only [Zfh,ZfX]
  rw [ZgX ls hkl hl 256 he.1 he.2]
  dsimp only
  rw [if_pos rfl,List.take_of_length_le (by omega)]
 | F+1,a,f,ha,hF,hf,hp=>by
  obtain ⟨f',rfl⟩:∃f',f=f'+1:=⟨f-1,by omega⟩
  by_cases c:a<s.length
  ·have e:Zfh s (F+1) a=Zj6 s a::Zfh s F (a+(Zj6 s a).long):=by rw [Zfh,if_pos c]
   have hok:=ZlK s (F+1) a ha
   rw [e] at hf hp hok ⊢
   have hp0:=hp _ (List.mem_cons_self ..)
   have hp1:∀t∈Zfh s F (a+(Zj6 s a).long),t.Pos ls ds:=fun t ht=>hp t (List.mem_cons_of_mem _ ht)
   have hok0:=hok _ (List.mem_cons_self ..)
   rw [List.length_cons] at hf
   have hlong:=Zme s a
   rw [ZgW]
   unfold Zq7
   rw [if_neg (by rw [ZdV,List.length_take];omega),ZfX]
   cases ht:Zj6 s a with
   | lit ch=>
    have hch:=Ztq ht
    rw [ht] at hp0 hok0 hf hp1
    have hlt:ch<256:=hok0
    simp only [Zqn,List.append_assoc]
    rw [ZgX ls hkl hl ch hp0.1 hp0.2]
    dsimp only
    rw [if_neg (by omega),if_pos hlt]
    have ih:=ZmF ls ds hkl hkd hl hd he s hs rest F (a+1) f' (by omega) (by omega) (by simpa [Tk.long] using hf) (by simpa [Tk.long] using hp1)
    have e1:ints (s.take (a+1))=ints (s.take a)++[(ch:Int)]:=by
     rw [Zkg s a 0 c,ZmX,hch];rfl
    rw [←e1]
    exact ih
   | far l k=>
    obtain ⟨g1,g2,g3,g4,g5,g6⟩:=Ztr ht ha
    rw [ht] at hp0 hok0 hf hp1
    obtain ⟨⟨q1,q2⟩,q3,q4⟩:=hp0
    obtain ⟨_,_,a1,_,_⟩:=ZfF l g1 g2
    simp only [Zqn,List.append_assoc]
    rw [ZgX ls hkl hl _ q1 q2]
    dsimp only
    rw [if_neg (by omega),if_neg (by omega),if_neg (by omega),Nat.add_sub_cancel_left,Zwu ds hkd hd _ l k hok0 ⟨q3,q4⟩ _ _ _ g6]
    exact ZmF ls ds hkl hkd hl hd he s hs rest F (a+l) f' (by omega) (by omega) (by simpa [Tk.long] using hf) (by simpa [Tk.long] using hp1)
  ·have e:Zfh s (F+1) a=[]:=by rw [Zfh,if_neg c]
   rw [e,ZgW]
   unfold Zq7
   rw [if_neg (by rw [ZdV,List.length_take];omega)]
   simp only [ZfX]
   rw [ZgX ls hkl hl 256 he.1 he.2]
   dsimp only
   rw [if_pos rfl,List.take_of_length_le (by omega)]
theorem Zpv (ns:List Nat) (i:Nat):(Zjj ns i).length=ns.getD i 0:=by
 unfold Zjj msb;rw [List.length_reverse,Zaj]
theorem Zqz (ls ds:List Nat) (he:0<ls.getD 256 0):∀ts:List Tk,(∀t∈ts,t.Pos ls ds)→ts.length+1≤(ZfX ls ds ts).length
 | [],_=>by rw [ZfX,Zpv,List.length_nil];omega
 | t::r,h=>by
  have ih:=Zqz ls ds he r (fun x hx=>h x (List.mem_cons_of_mem _ hx))
  have h0:=h t (List.mem_cons_self ..)
  have:1≤(Zqn ls ds t).length:=by
   cases t with
   | lit c=>rw [Zqn,Zpv];have:=h0.2;omega
   | far l k=>rw [Zqn,List.length_append,Zpv];have:=h0.1.2;omega
  rw [ZfX,List.length_append,List.length_cons];omega
theorem ZmN {ns:List Nat} (h:Zdm ns=true):Zby ns≤32768:=by
 unfold Zdm at h
 simp only [Bool.and_eq_true,Bool.or_eq_true,decide_eq_true_eq] at h
 rcases h.2.2 with h | h
 ·omega
 ·omega
theorem ZoE (ls ds:List Nat) (h1:Zdm ls=true) (h2:Zdm ds=true) (he:256<ls.length∧0<ls.getD 256 0) (s:Str) (hs:s.length≤300) (hp:∀t∈ZiE s,t.Pos ls ds) (rest:List Bool) :
  ZiB ls ds (some (ZfX ls ds (ZiE s)++rest)) []=some (rest,ints s):=by
 have hl:=Zqz ls ds he.2 (ZiE s) hp
 unfold ZiB
 dsimp only
 rw [h1,h2,Bool.and_self,if_pos rfl]
 have:=ZmF ls ds (ZmN h1) (ZmN h2) (Zgp h1).2 (Zgp h2).2 he s hs rest s.length 0 ((ZfX ls ds (ZiE s)++rest).length+1) (Nat.zero_le _) (by omega) (by rw [List.length_append];unfold ZiE at hl;unfold ZiE;omega) hp
 exact this
theorem Zpq:∀n,ZcD (List.replicate n false)=0
 | 0=>rfl
 | n+1=>by rw [List.replicate_succ,ZcD,Zpq n];rfl
theorem Zu6 (z:Nat) (h:z<8):Zed (some (List.replicate z false))=some []:=by
 unfold Zed
 dsimp only
 rw [List.length_replicate,Nat.mod_eq_of_lt h,List.take_of_length_le (by simp),Zpq,if_pos rfl,List.drop_eq_nil_of_le (by simp)]
theorem Zws (b body:List Bool) (k:Nat) (hk:k<4) (o:List Int) (ho:o.length≤300) (hb:b=true::(ZbT k 2++body)) (h:∀rest,Zeq k (some (body++rest)) []=some (rest,o)) :
  Zu4 (ZhN b)=some (o,(ZhN b).length):=by
 subst hb
 unfold Zu4
 rw [Zsi]
 unfold ZiC
 generalize hz:(8-(true::(ZbT k 2++body)).length%8)%8=z
 have hz8:z<8:=by rw [←hz];exact Nat.mod_lt _ (by decide)
 rw [List.cons_append,mGo,ZgY,List.append_assoc,Zeh 2 k (by omega),Zfc,h]
 simp only [Option.map_some,Option.bind_some]
 rw [if_neg (by omega),if_pos trivial]
 simp only [Option.bind_some]
 rw [Zu6 z hz8]
 simp
theorem Zzx (t:Tk) (h:t.Ok):t.Pos Znb ZnY:=by
 have hL:∀i,i<288→0<Znb.getD i 0:=by decide +kernel
 have hD:∀i,i<32→0<ZnY.getD i 0:=by decide +kernel
 cases t with
 | lit c=>
  have h:c<256:=h
  exact ⟨by rw [Zdd];omega,hL c (by omega)⟩
 | far l k=>
  obtain ⟨h1,h2,h3,h4⟩:=h
  obtain ⟨_,_,a1,_,_⟩:=ZfF l h1 h2
  obtain ⟨_,_,b1,_,_⟩:=Zgk k h3 h4
  exact ⟨⟨by rw [Zdd];omega,hL _ (by omega)⟩,by rw [Zhr];omega,hD _ (by omega)⟩
theorem Zvk:Zdm Znb=true:=by decide +kernel
theorem Zvl:Zdm ZnY=true:=by decide +kernel
theorem Zu3 (s:Str) (hs:s.length≤300):Zu4 (ZhC s)=some (ints s,(ZhC s).length):=by
 unfold ZhC
 refine Zws (Zw0 s) (ZfX Znb ZnY (ZiE s)) 1 (by omega) _ (by rw [ZdV];exact hs) ?_ fun rest=>?_
 ·unfold Zw0
  rw [List.append_assoc,show ZbT 1 1=[true] from rfl];rfl
 ·unfold Zeq
  rw [if_neg (by omega),if_pos rfl]
  exact ZoE Znb ZnY Zvk Zvl (by rw [Zdd];exact ⟨by omega,by decide +kernel⟩) s hs (fun t ht=>Zzx t (ZgD s t ht)) rest
theorem Znx:∀s:Str,Zgx s.length (Zdx s)=ints s
 | []=>rfl
 | c::r=>by
  rw [List.length_cons,Zgx,Zdx,List.take_left' (Zaj _ _),List.drop_left' (Zaj _ _),Znx r,Zl8,Nat.mod_eq_of_lt (by have:=c.toNat_lt;simpa using this)]
  rfl
theorem Zu2 (s:Str) (hs:s.length≤300):Zu4 (Zhy s)=some (ints s,(Zhy s).length):=by
 have hb:Zdx (Zhy s)=ZoZ++(ZbT s.length 16++(ZbT (65535-s.length) 16++Zdx s)):=by
  unfold Zhy
  rw [Zj2,Zhu 5 (ZfZ s.length) (by unfold ZfZ;simp only [List.length_append,Zaj];rfl)]
  unfold ZfZ
  simp only [List.append_assoc]
 have hlen:(Zdx s).length=8*s.length:=Zc9 s
 unfold Zu4
 rw [hb]
 have h8:∀r:List Bool,ZoZ++r=true::(ZbT 0 2++(List.replicate 5 false++r)):=fun r=>rfl
 rw [h8,mGo,ZgY,Zeh 2 0 (by omega),Zfc]
 unfold Zeq
 rw [if_pos rfl]
 unfold Zf5 Zed
 dsimp only
 rw [show (List.replicate 5 false++(ZbT s.length 16++(ZbT (65535-s.length) 16++Zdx s))).length%8=5 by simp only [List.length_append,List.length_replicate,Zaj,hlen];omega,
  List.take_left' (List.length_replicate ..),Zpq,if_pos rfl,List.drop_left' (List.length_replicate ..)]
 dsimp only
 rw [Zfc]
 dsimp only
 rw [Zfc]
 dsimp only
 rw [Zeh 16 s.length (by omega),Zeh 16 (65535-s.length) (by omega),if_neg (by omega)]
 simp only [Option.map_some,Option.bind_some,List.nil_append]
 rw [if_neg (by rw [ZfS];omega),if_pos trivial,Znx,List.drop_eq_nil_of_le (by omega)]
 simp [ZcD]
end Ev
end
section
namespace Ev
open Go
theorem ZoG (M:List Nat) (h7:∀i,M.getD i 0≤7) (rest:List Bool):∀(is A:List Nat),Zhk is (ZeQ M is++rest) A=some (rest,is.foldl (fun A k=>A.set k (M.getD k 0)) A)
 | [],A=>rfl
 | k::r,A=>by
  have e:ZeQ M (k::r)=ZbT (M.getD k 0) 3++ZeQ M r:=by simp [ZeQ]
  have:=h7 k
  rw [e,List.append_assoc,Zhk,Zfc]
  dsimp only
  rw [Zeh 3 _ (by omega),ZoG M h7 rest r]
  rfl
theorem ZuR (a0 a1 a2 a3 a4 a5 a6 a7 a8 a9 a10 a11 a12 a13 a14 a15 a16 a17 a18:Nat):ZaW.foldl (fun A k=>A.set k ([a0,a1,a2,a3,a4,a5,a6,a7,a8,a9,a10,a11,a12,a13,a14,a15,a16,a17,a18].getD k 0)) (List.replicate 19 0)=[a0,a1,a2,a3,a4,a5,a6,a7,a8,a9,a10,a11,a12,a13,a14,a15,a16,a17,a18]:=by kernel_rfl
theorem Zv9 (M:List Nat) (h:M.length=19):ZaW.foldl (fun A k=>A.set k (M.getD k 0)) (List.replicate 19 0)=M:=by
 match M,h with
 | [a0,a1,a2,a3,a4,a5,a6,a7,a8,a9,a10,a11,a12,a13,a14,a15,a16,a17,a18],_=>exact ZuR a0 a1 a2 a3 a4 a5 a6 a7 a8 a9 a10 a11 a12 a13 a14 a15 a16 a17 a18
theorem Zrf (M:List Nat) (hk:Zby M≤32768) (h15:∀n∈M,n≤15) (rest:List Bool) (n:Nat):∀(S all:List Nat) (f:Nat),(∀s∈S,s<M.length∧0<M.getD s 0∧s<16)→all.length+S.length=n→S.length<f→
  ZvD M n f (Zj9 M S++rest) all=some (rest,all++S)
 | [],all,f,h,hn,hf=>by
  obtain ⟨f',rfl⟩:∃f',f=f'+1:=⟨f-1,by omega⟩
  rw [Zf6]
  unfold ZfK
  rw [if_neg (by simp at hn;omega)]
  simp [Zj9]
 | s::r,all,f,h,hn,hf=>by
  obtain ⟨f',rfl⟩:∃f',f=f'+1:=⟨f-1,by omega⟩
  obtain ⟨h1,h2,h3⟩:=h s (List.mem_cons_self ..)
  rw [List.length_cons] at hn hf
  have e:Zj9 M (s::r)=Zjj M s++Zj9 M r:=by simp [Zj9]
  rw [Zf6]
  unfold ZfK
  rw [if_pos (by omega),e,List.append_assoc,ZgX M hk h15 s h1 h2]
  dsimp only
  unfold Zyb
  rw [if_pos h3]
  simp only [Option.bind_some]
  rw [Zrf M hk h15 rest n r (all++[s]) f' (fun x hx=>h x (List.mem_cons_of_mem _ hx)) (by simp;omega) (by omega),List.append_assoc]
  rfl
theorem ZpL {ns:List Nat} (h1:ns.length≤300) (h2:∀n∈ns,n≤15) (h3:Zby ns=32768∨Zfg ns=1∧Zby ns=16384):Zdm ns=true:=by
 unfold Zdm
 simp only [Bool.and_eq_true,Bool.or_eq_true,decide_eq_true_eq,List.all_eq_true]
 exact ⟨h1,h2,h3⟩
theorem Zwr (ts:List Tk) (hO:Zic ts) (rest:List Bool) :
  Zg0 (some (ZbT ((ZeA ts).length-257) 5++(ZbT ((ZeU ts).length-1) 5++(ZbT 15 4++(ZeQ (Zgf ts) ZaW++(Zj9 (Zgf ts) (ZgH ts)++rest))))))=some (ZeA ts,ZeU ts,rest):=by
 have l1:=hO.l1
 have l2:=hO.l2
 have d1:=hO.d1
 have d2:=hO.d2
 have hSl:(ZgH ts).length=(ZeA ts).length+(ZeU ts).length:=by unfold ZgH;rw [List.length_append]
 have h16:∀s∈ZgH ts,s<16:=fun s hs=>by
  unfold ZgH at hs
  rcases List.mem_append.1 hs with h | h
  ·have:=hO.l15 s h;omega
  ·have:=hO.d15 s h;omega
 have hML:Zdm (Zgf ts)=true:=ZpL (by rw [hO.ml];omega) hO.m15 hO.m.ok
 unfold Zg0
 dsimp only
 rw [Zfc]
 dsimp only
 rw [Zfc]
 dsimp only
 rw [Zfc]
 dsimp only
 rw [Zeh 5 _ (by omega),Zeh 5 _ (by omega),Zeh 4 15 (by omega)]
 unfold Zln
 rw [show ZaW.take (15+4)=ZaW from rfl,ZoG (Zgf ts) hO.m7,Zv9 _ hO.ml]
 dsimp only
 have hneg:¬(Zdm (Zgf ts)=false∨286<(ZeA ts).length-257+257∨30<(ZeU ts).length-1+1):=by
  rintro (q | q | q)
  ·rw [hML] at q;cases q
  ·omega
  ·omega
 rw [if_neg hneg,show (ZeA ts).length-257+257=(ZeA ts).length by omega,show (ZeU ts).length-1+1=(ZeU ts).length by omega,
  Zrf (Zgf ts) hO.km hO.m15 rest ((ZeA ts).length+(ZeU ts).length) (ZgH ts) [] _ (fun s hs=>⟨by rw [hO.ml];exact (hO.mpos s hs).2,(hO.mpos s hs).1,h16 s hs⟩) (by rw [hSl];simp) (by omega)]
 dsimp only
 rw [List.nil_append,if_pos hSl]
 unfold ZgH
 rw [List.take_left' rfl,List.drop_left' rfl]
theorem Zic.pos {ts:List Tk} (h:Zic ts):∀t∈ts,t.Pos (ZeA ts) (ZeU ts):=fun t ht=>by
 cases t with
 | lit c=>have:=h.lpos c (List.mem_flatMap.2 ⟨_,ht,by simp [ZsV]⟩);exact ⟨this.2,this.1⟩
 | far l k=>
  have h1:=h.lpos (257+Zb2 ZaD l) (List.mem_flatMap.2 ⟨_,ht,by simp [ZsV]⟩)
  have h2:=h.dpos (Zb2 ZaV k) (List.mem_flatMap.2 ⟨_,ht,by simp [Zvv]⟩)
  exact ⟨⟨h1.2,h1.1⟩,h2.2,h2.1⟩
theorem Zyc (s:Str) (hs:s.length≤300):Zu4 (ZuQ s)=some (ints s,(ZuQ s).length):=by
 have hlen:(ZiE s).length≤300:=Nat.le_trans (ZfW s) hs
 have hO:=Zv5 (ZiE s) (ZgD s) hlen
 unfold ZuQ
 refine Zws (ownB (ZiE s)) (ZbT ((ZeA (ZiE s)).length-257) 5++(ZbT ((ZeU (ZiE s)).length-1) 5++(ZbT 15 4++(ZeQ (Zgf (ZiE s)) ZaW++(Zj9 (Zgf (ZiE s)) (ZgH (ZiE s))++ZfX (ZeA (ZiE s)) (ZeU (ZiE s)) (ZiE s)))))) 2 (by omega) _ (by rw [ZdV];exact hs) ?_ fun rest=>?_
 ·unfold ownB Zow
  simp only [List.append_assoc,List.nil_append,show ZbT 1 1=[true] from rfl,List.cons_append]
 ·simp only [List.append_assoc]
  unfold Zeq
  rw [if_neg (by omega),if_neg (by omega),if_pos rfl,Zwr _ hO]
  dsimp only
  exact ZoE _ _ (ZpL (by have:=hO.l2;omega) hO.l15 hO.lk) (ZpL (by have:=hO.d2;omega) hO.d15 hO.dk) ⟨by have:=hO.l1;omega,hO.epos⟩ s hs hO.pos rest
theorem Zut (s:Str):(Zhv s).length≤s.length+5:=by
 have:=Zpx s
 unfold Zhv
 dsimp only
 split<;>split<;>omega
theorem Zwt (s:Str) (hs:s.length≤300):Zu4 (Zhv s)=some (ints s,(Zhv s).length):=by
 have h:Zhv s=ZuQ s∨Zhv s=ZhC s∨Zhv s=Zhy s:=by
  unfold Zhv
  dsimp only
  by_cases c1:(ZhC s).length<(Zhy s).length
  ·rw [if_pos c1];split
   ·exact .inl rfl
   ·exact .inr (.inl rfl)
  ·rw [if_neg c1];split
   ·exact .inl rfl
   ·exact .inr (.inr rfl)
 rcases h with h | h | h<;>rw [h]
 ·exact Zyc s hs
 ·exact Zu3 s hs
 ·exact Zu2 s hs
theorem Zs6 (s:Str) (hs:s.length≤300):ZhB (Zhv s)=(s,((Zhv s).length:Int),true):=by
 have:=Zut s
 unfold ZhB
 rw [if_neg (by omega),Zwt s hs]
 unfold Zyq ints
 dsimp only
 rw [ZhL]
end Ev
end
section
namespace Ev
open Go
theorem Zr7 (b:UInt8):∀s:Str,((ZbH b s).map fun p=>p.length+1).sum=s.length+1
 | []=>rfl
 | c::s=>by
  have ih:=Zr7 b s
  simp only [ZbH]
  split
  ·rw [List.map_cons,List.sum_cons,ih,List.length_cons,List.length_nil];omega
  ·cases hc:ZbH b s with
   | nil=>exact absurd hc (Zfe b s)
   | cons p r=>
    rw [hc] at ih
    simp only [List.map_cons,List.sum_cons,List.length_cons] at ih ⊢
    omega
theorem ZgS {α:Type} (f:α→Nat) (k:Nat):∀l:List α,(∀x∈l,f x≤k)→(l.map f).sum≤k*l.length
 | [],_=>by simp
 | x::l,h=>by
  have h1:=h x (List.mem_cons_self ..)
  have h2:=ZgS f k l (fun y hy=>h y (List.mem_cons_of_mem _ hy))
  rw [List.map_cons,List.sum_cons,List.length_cons,Nat.mul_add];omega
theorem ZdE {s:Str} (h:ZcG s=true):1≤s.length∧s.length≤43:=by
 unfold ZcG at h
 rw [Bool.and_eq_true,List.all_eq_true,decide_eq_true_eq] at h
 obtain ⟨h1,h2⟩:=h
 have hs:=Zr7 47 s
 have hp:∀p∈ZbH 47 s,1≤p.length∧p.length≤10:=fun p hp=>by
  have:=h1 p hp
  unfold part at this
  simp only [Bool.and_eq_true,decide_eq_true_eq] at this
  exact this.2.1
 have hm:=ZgS (fun p:Str=>p.length+1) 11 (ZbH 47 s) (fun p h=>by have:=hp p h;omega)
 refine ⟨?_,by omega⟩
 cases hc:ZbH 47 s with
 | nil=>exact absurd hc (Zfe 47 s)
 | cons p r=>
  have:=(hp p (by rw [hc];exact List.mem_cons_self ..)).1
  rw [hc,List.map_cons,List.sum_cons] at hs
  omega
abbrev Fil.txt (e:Fil):Str:=e.2.2.2.2.2.2.2
def ZeP (text:Str):Nat×Str:=if (Zhv text).length<text.length then (8,Zhv text) else (0,text)
def stF (e:Fil):Nat:=stN e.2.1.toNat e.2.2.1.toNat e.2.2.2.1.toNat e.2.2.2.2.1.toNat e.2.2.2.2.2.1.toNat e.2.2.2.2.2.2.1.toNat
def Zwy (e:Fil):Str:=ZrI (ZeP e.txt).1 (stF e) (Zqq e.txt) (ZeP e.txt).2.length e.txt.length e.1.length
def ZgI (e:Fil):Str:=Zwy e++(e.1++(ZeP e.txt).2)
theorem Zdv (a b c d e f:Nat):(ZrI a b c d e f).length=30:=by
 unfold ZrI;simp only [List.length_append,ZaN]
theorem Zjw (t:Str):(ZeP t).2.length≤t.length∧(ZeP t).1≤8:=by
 unfold ZeP
 split
 ·exact ⟨by dsimp only;omega,by dsimp only;omega⟩
 ·exact ⟨Nat.le_refl _,by dsimp only;omega⟩
theorem unpM_8 (body t:Str) (h:ZhB body=(t,(body.length:Int),true)):Zxz 8 body=some t:=by
 unfold Zxz
 rw [h,if_neg (by omega),if_pos rfl]
 exact if_pos ⟨rfl,rfl⟩
theorem unpM_0 (body:Str):Zxz 0 body=some body:=by
 unfold Zxz;rw [if_pos rfl]
theorem ZxW (t:Str) (ht:t.length≤300):Zxz (ZeP t).1 (ZeP t).2=some t:=by
 have h8:=unpM_8 (Zhv t) t (Zs6 t ht)
 have h0:=unpM_0 t
 unfold ZeP
 generalize Zhv t=b at h8 ⊢
 split
 ·exact h8
 ·exact h0
theorem Zhn (e:Fil):(ZgI e).length=30+e.1.length+(ZeP e.txt).2.length:=by
 unfold ZgI Zwy;rw [List.length_append,List.length_append,Zdv];omega
theorem ZbW {e:Fil} (h:Zcb e=true):ZcG e.1=true∧stM e.2.1 e.2.2.1 e.2.2.2.1 e.2.2.2.2.1 e.2.2.2.2.2.1 e.2.2.2.2.2.2.1=true∧e.txt.length≤300:=by
 unfold Zcb at h
 simp only [Bool.and_eq_true,decide_eq_true_eq] at h
 exact ⟨h.1,h.2.1,h.2.2⟩
set_option maxRecDepth 100000 in
theorem Zwx (e:Fil) (h:Zcb e=true) (x:Str):ZhV (ZgI e++x)=some (e,(ZgI e).length):=by
 obtain ⟨h1,h2,h3⟩:=ZbW h
 have hL:=Zhn e
 have hnl:=ZdE h1
 have hp:=Zjw e.txt
 have hu:=ZxW e.txt h3
 have hc:=Zjd e.txt
 obtain ⟨y,mo,d,hh,mi,sec,e1,e2,e3,e4,e5,e6,_⟩:=Zkk h2
 have hst:stF e=stN y mo d hh mi sec:=by
  unfold stF;rw [e1,e2,e3,e4,e5,e6];simp only [Int.toNat_natCast]
 rw [e1,e2,e3,e4,e5,e6] at h2
 obtain ⟨g1,g2⟩:=Zpy h2
 rw [←hst] at g1 g2
 obtain ⟨s,hs⟩:∃s,s=ZgI e++x:=⟨_,rfl⟩
 rw [←hs]
 have hsl:s.length=(ZgI e).length+x.length:=by rw [hs,List.length_append]
 have happ:s=Zwy e++(e.1++((ZeP e.txt).2++x)):=by rw [hs];unfold ZgI;simp only [List.append_assoc]
 have hl30:(Zwy e).length=30:=Zdv _ _ _ _ _ _
 have ht30:Zwy e=s.take 30:=by rw [happ,List.take_left' hl30]
 have hd30:s.drop 30=e.1++((ZeP e.txt).2++x):=by rw [happ,List.drop_left' hl30]
 have hname:(s.drop 30).take e.1.length=e.1:=by rw [hd30,List.take_left' rfl]
 have hbody:(s.drop (30+e.1.length)).take (ZeP e.txt).2.length=(ZeP e.txt).2:=by
  rw [←List.drop_drop,hd30,List.drop_left' rfl,List.take_left' rfl]
 obtain ⟨q1,q2,q3,q4,q5,q6,q7,q8,q9,q10⟩:=(ZpZ s (by omega) (ZeP e.txt).1 (stF e) (Zqq e.txt) (ZeP e.txt).2.length e.txt.length e.1.length (by omega) g2 hc (by omega) (by omega) (by omega)).1 ht30
 unfold ZhV
 rw [if_neg (by omega),q9,q7,if_neg (by omega),q4,hbody,hu]
 dsimp only
 have hC:ZsU s e.txt:=by
  unfold ZsU
  rw [q9,hname,q5,g1]
  exact ⟨h1,h2,h3,q1,q2,q3,q10,q6,q8⟩
 rw [if_pos hC,hname,q5,g1]
 dsimp only
 rw [←e1,←e2,←e3,←e4,←e5,←e6,←hL]
end Ev
end
section
namespace Ev
open Go
def ZnX (es:List Fil):Str:=(es.map ZgI).flatten
def Zd0 (es:List Fil):Str:=ZnX es++ZeW (es.map ZgI)
theorem ZkK (e:Fil) (r:List Fil):ZnX (e::r)=ZgI e++ZnX r:=by simp [ZnX]
theorem Zh0 (es:List Fil):(ZnX es).length=ZfG (es.map ZgI):=by
 induction es with
 | nil=>rfl
 | cons e r ih=>rw [ZkK,List.length_append,ih];simp [ZfG]
theorem Zms (rest:Str) (hr:ZhV rest=none):∀(es:List Fil) (K:Nat),es.length≤K→(∀e∈es,Zcb e=true)→ZbB K (ZnX es++rest)=(es,es.map ZgI,rest)
 | [],K,hK,h=>by
  rw [show ZnX []++rest=rest from rfl]
  cases K with
  | zero=>rfl
  | succ K=>rw [ZbB,hr];rfl
 | e::r,K,hK,h=>by
  rw [List.length_cons] at hK
  obtain ⟨K,rfl⟩:∃K',K=K'+1:=⟨K-1,by omega⟩
  rw [ZkK,List.append_assoc,ZbB,Zwx e (h e (List.mem_cons_self ..))]
  dsimp only
  rw [List.drop_left' rfl,List.take_left' rfl,Zms rest hr r K (by omega) (fun x hx=>h x (List.mem_cons_of_mem _ hx))]
  rfl
theorem Ztg (ls:List Str):ZhV (ZeW ls)=none:=Znr _ _ _ _ _
theorem ZaK {es:List Fil} (h:ZdD es=true):(∀e∈es,Zcb e=true)∧es.length≤6:=by
 unfold ZdD at h
 simp only [Bool.and_eq_true,List.all_eq_true,decide_eq_true_eq] at h
 exact ⟨h.1,h.2.1⟩
theorem Zc3 (es:List Fil) (h:ZdD es=true):Za3 (Zd0 es)=some es:=by
 obtain ⟨h1,h2⟩:=ZaK h
 unfold Za3 Zd0
 rw [Zms _ (Ztg _) es 6 h2 h1]
 dsimp only
 rw [if_pos ⟨h,rfl⟩]
theorem Zbv {s:Str} {es:List Fil} (h:Za3 s=some es):ZdD es=true:=by
 unfold Za3 at h
 split at h
 ·rename_i hc
  obtain rfl:=Option.some.inj h
  exact hc.1
 ·cases h
theorem ZsS {e:Fil} (h:Zcb e=true):(ZgI e).length≤373∧30≤(ZgI e).length:=by
 obtain ⟨h1,h2,h3⟩:=ZbW h
 have:=ZdE h1
 have:=Zjw e.txt
 rw [Zhn];omega
theorem ZmH {e:Fil} (h:Zcb e=true):leN (ZgI e) 26 2=e.1.length:=by
 obtain ⟨h1,h2,h3⟩:=ZbW h
 have hnl:=ZdE h1
 have hp:=Zjw e.txt
 have hc:=Zjd e.txt
 obtain ⟨y,mo,d,hh,mi,sec,e1,e2,e3,e4,e5,e6,_⟩:=Zkk h2
 have hst:stF e=stN y mo d hh mi sec:=by
  unfold stF;rw [e1,e2,e3,e4,e5,e6];simp only [Int.toNat_natCast]
 rw [e1,e2,e3,e4,e5,e6] at h2
 obtain ⟨g1,g2⟩:=Zpy h2
 rw [←hst] at g2
 have hL:=Zhn e
 have hl30:(Zwy e).length=30:=Zdv _ _ _ _ _ _
 have ht30:Zwy e=(ZgI e).take 30:=by unfold ZgI;rw [List.take_left' hl30]
 exact ((ZpZ (ZgI e) (by omega) (ZeP e.txt).1 (stF e) (Zqq e.txt) (ZeP e.txt).2.length e.txt.length e.1.length (by omega) g2 hc (by omega) (by omega) (by omega)).1 ht30).2.2.2.2.2.2.2.2.1
theorem ZoK {e:Fil} (h:Zcb e=true):Zql (ZgI e):=by
 have h1:=ZsS h
 refine ⟨?_,by omega⟩
 rw [ZmH h,Zhn];omega
theorem Zpw (es:List Fil) (h:∀e∈es,Zcb e=true):ZfG (es.map ZgI)≤373*es.length:=by
 unfold ZfG
 rw [List.map_map]
 exact ZgS _ 373 es fun e he=>(ZsS (h e he)).1
theorem ZoY (es:List Fil) (h:∀e∈es,Zcb e=true):∀a,(ZcI (es.map ZgI) a).length=(es.map fun e=>46+e.1.length).sum:=by
 induction es with
 | nil=>intro a;rfl
 | cons e r ih=>
  intro a
  have he:=h e (List.mem_cons_self ..)
  simp only [List.map_cons,ZcI,List.length_append,List.sum_cons]
  rw [Zh7 _ _ (ZoK he),ZmH he,ih (fun x hx=>h x (List.mem_cons_of_mem _ hx))]
theorem ZiV (es:List Fil) (h:∀e∈es,Zcb e=true):(Zd0 es).length=ZfG (es.map ZgI)+(es.map fun e=>46+e.1.length).sum+22:=by
 unfold Zd0 ZeW
 rw [List.length_append,List.length_append,Zh0,Zjb,ZoY es h];omega
theorem Zka (es:List Fil) (h:ZdD es=true):(Zd0 es).length≤3000:=by
 obtain ⟨h1,h2⟩:=ZaK h
 have a1:=Zpw es h1
 have a2:=ZgS (fun e:Fil=>46+e.1.length) 89 es fun e he=>by
  have:=ZdE (ZbW (h1 e he)).1
  omega
 rw [ZiV es h1];omega
end Ev
end
section
namespace Ev
open Go
theorem Zp8 (e:Fil) (hn:e.1.length≤1048576):ZbG e.1 e.2.1 e.2.2.1 e.2.2.2.1 e.2.2.2.2.1 e.2.2.2.2.2.1 e.2.2.2.2.2.2.1 e.2.2.2.2.2.2.2=some (Zcb e):=ZkS _ hn _ _ _ _ _ _ _
theorem Zk8 (e:Fil) (hn:e.1.length≤1048576):ZaM e.1 e.2.1 e.2.2.1 e.2.2.2.1 e.2.2.2.2.1 e.2.2.2.2.2.1 e.2.2.2.2.2.2.1 e.2.2.2.2.2.2.2=some (Zcb e):=ZgE _ hn _ _ _ _ _ _ _
theorem ZrY {e:Fil} (h:Zcb e=true):∃(nm:Str) (y mo d hh mi sec:Nat) (t:Str),e=(nm,(y:Int),(mo:Int),(d:Int),(hh:Int),(mi:Int),(sec:Int),t)∧ZcG nm=true∧stM y mo d hh mi sec=true∧t.length≤300∧nm.length≤43∧1≤nm.length∧stF e=stN y mo d hh mi sec∧stN y mo d hh mi sec<4294967296:=by
 obtain ⟨h1,h2,h3⟩:=ZbW h
 have hnl:=ZdE h1
 obtain ⟨nm,y,mo,d,hh,mi,sec,t⟩:=e
 dsimp only at h1 h2 h3 hnl
 obtain ⟨y',mo',d',hh',mi',sec',rfl,rfl,rfl,rfl,rfl,rfl,_⟩:=Zkk h2
 exact ⟨nm,y',mo',d',hh',mi',sec',t,rfl,h1,h2,h3,hnl.2,hnl.1,by unfold stF;simp only [Int.toNat_natCast],(Zpy h2).2⟩
theorem ZsQ (e:Fil) (hn:e.1.length≤1048576):ZdQ e.1 e.2.1 e.2.2.1 e.2.2.2.1 e.2.2.2.2.1 e.2.2.2.2.2.1 e.2.2.2.2.2.2.1 e.2.2.2.2.2.2.2=some (if Zcb e then ZgI e else []):=by
 unfold ZdQ
 rw [Zp8 e hn]
 simp only [Zaa]
 cases hf:Zcb e with
 | false=>rfl
 | true=>
  obtain ⟨nm,y,mo,d,hh,mi,sec,t,rfl,h1,h2,h3,h4,_,h5,h6⟩:=ZrY hf
  have hb:=Zut t
  dsimp only
  simp only [Bool.not_true,cond_false]
  rw [if_pos trivial,Zs5 t h3]
  simp only [Zaa]
  unfold ZgI Zwy ZeP
  rw [h5]
  dsimp only [Fil.txt]
  by_cases hlt:(Zhv t).length<t.length
  ·rw [decide_eq_true (by omega),cond_true,if_pos hlt]
   have:=Zm0 nm (by omega) h2 t (by omega) 8 (Zhv t).length (by omega) (by omega)
   rw [show ((8:Nat):Int)=8 from rfl] at this
   rw [this]
   simp only [Zaa]
   rw [Zad (by rw [Zdv];omega),Zad (by rw [List.length_append,Zdv];omega),List.append_assoc]
  ·rw [decide_eq_false (by omega),cond_false,if_neg hlt]
   have:=Zm0 nm (by omega) h2 t (by omega) 0 t.length (by omega) (by omega)
   rw [show ((0:Nat):Int)=0 from rfl] at this
   rw [this]
   simp only [Zaa]
   rw [Zad (by rw [Zdv];omega),Zad (by rw [List.length_append,Zdv];omega),List.append_assoc]
theorem Zd8 (es:List Fil) (i:Nat) (h:i<es.length):es.getD i ([],0,0,0,0,0,0,[])=es[i]:=Zal h
theorem Zqs (es:List Fil) (hn:es.length≤1000) (hx:∀e∈es,Zcb e=true):∀(j i:Nat) (out:List Str),i+j=es.length→out.length=i→
  Za6.l0 (j+1) (es,(es.length:Int),(i:Int),out)=some (out++(es.drop i).map ZgI)
 | 0,i,out,h,ho=>by
  rw [Za6.l0.succ];simp only [Za6.l0.step]
  rw [ZaR (by omega),List.drop_eq_nil_of_le (by omega)];simp
 | j+1,i,out,h,ho=>by
  have hi:i<es.length:=by omega
  have hf:=hx es[i] (List.getElem_mem hi)
  have hnl:=ZdE (ZbW hf).1
  rw [Za6.l0.succ];simp only [Za6.l0.step]
  rw [ZaQ hi,cond_true,Zab _ Zau,Int.toNat_natCast,Zd8 es i hi,ZsQ _ (by omega),if_pos hf]
  simp only [Zaa]
  rw [Zad (by simp;omega),Zaf (by omega) (by omega),show (i:Int)+1=((i+1:Nat):Int) by omega,
   Zqs es hn hx j (i+1) _ (by omega) (by simp [ho]),List.drop_eq_getElem_cons hi,List.map_cons,List.append_assoc]
  rfl
theorem ZwN (xs:List Str):Zs1 xs []=xs.flatten:=by
 unfold Zs1
 induction xs with
 | nil=>rfl
 | cons x r ih=>
  cases r with
  | nil=>simp [List.intercalate]
  | cons y r=>simp only [List.intercalate,List.intersperse,List.flatten_cons] at ih ⊢;rw [ih];rfl
theorem ZgO (es:List Fil) (hn:es.length≤1048576) (hx:∀e∈es,e.1.length≤1048576):Za6 es=some (if ZdD es then Zd0 es else []):=by
 unfold Za6
 rw [Ztm es hn hx]
 simp only [Zaa]
 cases hz:ZdD es with
 | false=>rfl
 | true=>
  obtain ⟨h1,h2⟩:=ZaK hz
  have h:=Zqs es (by omega) h1 es.length 0 [] (by omega) rfl
  rw [show ((0:Nat):Int)=0 from rfl,List.drop_zero,List.nil_append] at h
  have hs:=Zpw es h1
  have hle:=Zka es hz
  have hfl:=Zh0 es
  have hcl:ZbL (es.map ZgI)=some (ZeW (es.map ZgI)):=Zpe _ (by rw [List.length_map];omega) (fun l hl=>by
   obtain ⟨e,he,rfl⟩:=List.mem_map.1 hl
   exact ZoK (h1 e he))
  simp only [Bool.not_true,cond_false]
  rw [if_pos trivial,ZaG,h]
  simp only [Zaa]
  unfold joinS
  rw [ZwN,show (es.map ZgI).flatten=ZnX es from rfl,Zab _ (by rw [Bool.and_eq_true];exact ⟨Zgb (by rw [List.length_map];omega),Zgb (by omega)⟩)]
  simp only [Zaa]
  rw [hcl]
  simp only [Zaa]
  rw [Zad (by unfold Zd0 at hle;rw [List.length_append] at hle;omega)]
  rfl
theorem ZtX (t:Str) (ht:t.length≤300):ZhG t=some (((ZeP t).1:Int),(ZeP t).2):=by
 unfold ZhG ZeP
 rw [Zmj t ht]
 simp only [Zaa]
 by_cases hlt:(Zhv t).length<t.length
 ·rw [decide_eq_true (by omega),if_pos hlt];rfl
 ·rw [decide_eq_false (by omega),if_neg hlt];rfl
def ZyY (e:Fil):Str:=leB 20 2++leB 0 2++leB (ZeP e.txt).1 2++leB (stF e) 4++leB (Zqq e.txt) 4++leB (ZeP e.txt).2.length 4++leB e.txt.length 4++leB e.1.length 2++leB 0 2
theorem ZtN (e:Fil):Zwy e=leB 67324752 4++ZyY e:=by
 unfold Zwy ZrI ZyY;simp only [List.append_assoc]
theorem Zi9 (e:Fil):(ZyY e).length=26:=by
 unfold ZyY;simp only [List.length_append,ZaN]
set_option maxRecDepth 100000 in
theorem ZmO (e:Fil) (hf:Zcb e=true):ZcY e.1 e.2.1 e.2.2.1 e.2.2.2.1 e.2.2.2.2.1 e.2.2.2.2.2.1 e.2.2.2.2.2.2.1 e.2.2.2.2.2.2.2=some (ZyY e):=by
 have L:∀n k,(leB n k).length=k:=ZaN
 obtain ⟨nm,y,mo,d,hh,mi,sec,t,rfl,h1,h2,h3,h4,_,h5,h6⟩:=ZrY hf
 have hp:=Zjw t
 have hc:=Zjd t
 have n1:=Zbg 20 2 (by omega) (by omega)
 have n2:=Zbg 0 2 (by omega) (by omega)
 have n3:=Zbg (ZeP t).1 2 (by omega) (by omega)
 have n4:=Zbg (stN y mo d hh mi sec) 4 (by omega) (by omega)
 have n5:=Zbg (Zqq t) 4 (by omega) (by omega)
 have n6:=Zbg (ZeP t).2.length 4 (by omega) (by omega)
 have n7:=Zbg t.length 4 (by omega) (by omega)
 have n8:=Zbg nm.length 2 (by omega) (by omega)
 rw [show ((20:Nat):Int)=20 from rfl,show ((2:Nat):Int)=2 from rfl] at n1
 rw [show ((0:Nat):Int)=0 from rfl,show ((2:Nat):Int)=2 from rfl] at n2
 rw [show ((2:Nat):Int)=2 from rfl] at n3 n8
 rw [show ((4:Nat):Int)=4 from rfl] at n4 n5 n6 n7
 unfold ZcY
 dsimp only
 rw [ZtX t h3]
 simp only [Zaa]
 rw [n1,n2]
 simp only [Zaa]
 rw [Zad (by simp only [L];omega),n3]
 simp only [Zaa]
 rw [Zad (by simp only [List.length_append,L];omega),Zyg h2]
 simp only [Zaa]
 rw [n4]
 simp only [Zaa]
 rw [Zad (by simp only [List.length_append,L];omega),Zom t (by omega)]
 simp only [Zaa]
 rw [n5]
 simp only [Zaa]
 rw [Zad (by simp only [List.length_append,L];omega),n6]
 simp only [Zaa]
 rw [Zad (by simp only [List.length_append,L];omega),n7]
 simp only [Zaa]
 rw [Zad (by simp only [List.length_append,L];omega),n8]
 simp only [Zaa]
 rw [Zad (by simp only [List.length_append,L];omega),Zad (by simp only [List.length_append,L];omega)]
 unfold ZyY
 rw [h5]
theorem Zu7 (e:Fil) (hf:Zcb e=true):ZeH e.1 e.2.1 e.2.2.1 e.2.2.2.1 e.2.2.2.2.1 e.2.2.2.2.2.1 e.2.2.2.2.2.2.1 e.2.2.2.2.2.2.2=some (ZgI e):=by
 have hfl:=Zi9 e
 have hff:=ZmO e hf
 obtain ⟨g1,g2,g3⟩:=ZbW hf
 have hnl:=ZdE g1
 have hp:(ZeP e.2.2.2.2.2.2.2).2.length≤e.2.2.2.2.2.2.2.length∧(ZeP e.2.2.2.2.2.2.2).1≤8:=Zjw e.txt
 have g3':e.2.2.2.2.2.2.2.length≤300:=g3
 have n1:=Zbg 67324752 4 (by omega) (by omega)
 rw [show ((67324752:Nat):Int)=67324752 from rfl,show ((4:Nat):Int)=4 from rfl] at n1
 unfold ZeH
 rw [ZtX e.2.2.2.2.2.2.2 g3]
 simp only [Zaa]
 rw [n1,hff]
 simp only [Zaa]
 rw [Zad (by rw [ZaN];omega),Zad (by rw [List.length_append,ZaN];omega),Zad (by rw [List.length_append,List.length_append,ZaN];omega)]
 unfold ZgI
 rw [ZtN]
 simp only [List.append_assoc]
theorem Zuq (e:Fil) (hf:Zcb e=true) (a:Nat):Zje (ZgI e) a=leB 33639248 4++leB 20 2++ZyY e++leB 0 10++leB a 4++e.1:=by
 have hl30:(Zwy e).length=30:=Zdv _ _ _ _ _ _
 have h1:((ZgI e).take 30).drop 4=ZyY e:=by
  unfold ZgI
  rw [List.take_left' hl30,ZtN,List.drop_left' (ZaN _ _)]
 have h2:((ZgI e).take (30+e.1.length)).drop 30=e.1:=by
  unfold ZgI
  rw [←List.append_assoc,List.take_left' (by rw [List.length_append,hl30]),List.drop_left' hl30]
 unfold Zje
 rw [ZmH hf,h1,h2]
theorem Zrn (e:Fil) (hf:Zcb e=true) (a:Nat) (ha:a≤100000000):Zc5 e.1 e.2.1 e.2.2.1 e.2.2.2.1 e.2.2.2.2.1 e.2.2.2.2.2.1 e.2.2.2.2.2.2.1 e.2.2.2.2.2.2.2 (a:Int)=some (Zje (ZgI e) a):=by
 have L:∀n k,(leB n k).length=k:=ZaN
 have hfl:=Zi9 e
 have hff:=ZmO e hf
 obtain ⟨g1,g2,g3⟩:=ZbW hf
 have hnl:=ZdE g1
 have n1:=Zbg 33639248 4 (by omega) (by omega)
 have n2:=Zbg 20 2 (by omega) (by omega)
 have n3:=Zbg 0 2 (by omega) (by omega)
 have n4:=Zbg 0 4 (by omega) (by omega)
 have n5:=Zbg a 4 (by omega) (by omega)
 rw [show ((33639248:Nat):Int)=33639248 from rfl,show ((4:Nat):Int)=4 from rfl] at n1
 rw [show ((20:Nat):Int)=20 from rfl,show ((2:Nat):Int)=2 from rfl] at n2
 rw [show ((0:Nat):Int)=0 from rfl,show ((2:Nat):Int)=2 from rfl] at n3
 rw [show ((0:Nat):Int)=0 from rfl,show ((4:Nat):Int)=4 from rfl] at n4
 rw [show ((4:Nat):Int)=4 from rfl] at n5
 unfold Zc5
 rw [n1,n2,hff,n3,n4,n5]
 simp only [Zaa]
 rw [Zad (by simp only [L];omega),Zad (by simp only [List.length_append,L];omega),Zad (by simp only [List.length_append,L];omega),Zad (by simp only [List.length_append,L];omega),Zad (by simp only [List.length_append,L];omega),
  Zad (by simp only [List.length_append,L];omega),Zad (by simp only [List.length_append,L];omega),Zad (by simp only [List.length_append,L];omega),Zuq e hf a]
 have z:leB 0 10=leB 0 2++(leB 0 2++(leB 0 2++leB 0 4)):=by decide
 rw [z]
 simp only [List.append_assoc]
theorem ZyG (e:Fil) (hf:Zcb e=true) (a:Nat):(Zje (ZgI e) a).length≤89:=by
 have hnl:=ZdE (ZbW hf).1
 rw [Zuq e hf]
 simp only [List.length_append,ZaN,Zi9];omega
theorem ZtS (es:List Fil) (hn:es.length≤1000) (hx:∀e∈es,Zcb e=true):∀(j i:Nat) (out heads:Str),i+j=es.length→out.length≤373*i→heads.length≤89*i→
  ZcL.l0 (j+1) (es,out,heads,(i:Int))=some (es,out++ZnX (es.drop i),heads++ZcI ((es.drop i).map ZgI) out.length)
 | 0,i,out,heads,h,ho,hh=>by
  rw [ZcL.l0.succ];simp only [ZcL.l0.step]
  rw [ZaR (by omega),List.drop_eq_nil_of_le (by omega)];simp [ZnX,ZcI]
 | j+1,i,out,heads,h,ho,hh=>by
  have hi:i<es.length:=by omega
  have hf:=hx es[i] (List.getElem_mem hi)
  have hc:=ZyG es[i] hf out.length
  have hl:=ZsS hf
  rw [ZcL.l0.succ];simp only [ZcL.l0.step]
  rw [ZaQ hi,cond_true,Zab _ Zau,Int.toNat_natCast,Zd8 es i hi,Zrn _ hf _ (by omega)]
  simp only [Zaa]
  rw [Zad (by omega),Zab _ Zau,Zu7 _ hf]
  simp only [Zaa]
  rw [Zad (by omega),Zaf (by omega) (by omega),show (i:Int)+1=((i+1:Nat):Int) by omega,
   ZtS es hn hx j (i+1) _ _ (by omega) (by rw [List.length_append];omega) (by rw [List.length_append];omega),List.drop_eq_getElem_cons hi,List.map_cons,ZkK]
  simp only [ZcI,List.append_assoc,List.length_append]
theorem Zis (es:List Fil) (hn:es.length≤1000) (hx:∀e∈es,Zcb e=true):ZcL es=some (Zd0 es):=by
 have h:=ZtS es hn hx es.length 0 [] [] (by omega) (by simp) (by simp)
 rw [show ((0:Nat):Int)=0 from rfl,List.drop_zero,List.nil_append,List.nil_append,List.length_nil] at h
 have h1:=Zpw es hx
 have h2:=Zh0 es
 have h3:=ZoY es hx 0
 have h4:=ZgS (fun e:Fil=>46+e.1.length) 89 es fun e he=>by
  have:=ZdE (ZbW (hx e he)).1
  omega
 unfold ZcL
 rw [ZaG,h]
 simp only [Zaa]
 rw [Zad (by omega),ZtU es.length _ _ (by omega) (by omega) (by omega)]
 simp only [Zaa]
 rw [Zad (by rw [List.length_append,Zjb];omega)]
 unfold Zd0 ZeW
 rw [List.length_map,h2,List.append_assoc]
end Ev
end
section
namespace Ev
open Go
theorem ZpX (a b:Str):hit a b=hit b a:=by
 unfold hit
 rw [Bool.eq_iff_iff]
 simp only [Bool.or_eq_true,beq_iff_eq]
 constructor
 ·rintro (h | h | h)
  ·exact .inl h.symm
  ·exact .inr (.inr h)
  ·exact .inr (.inl h)
 ·rintro (h | h | h)
  ·exact .inl h.symm
  ·exact .inr (.inr h)
  ·exact .inr (.inl h)
theorem Zo1 (a b:List Str) (i:Nat) (h:i<a.length):(a++b).getD i []=a.getD i []:=by
 simp only [List.getD_eq_getElem?_getD,List.getElem?_append_left h]
theorem Zvh (a:List Str) (n:Str):(a++[n]).getD a.length []=n:=by
 simp [List.getD_eq_getElem?_getD]
theorem ZnE (ns:List Str) (n:Str):ZfA (ns++[n])=(ZfA ns&&ns.all fun b=>!hit n b):=by
 unfold ZfA
 rw [List.length_append,List.length_cons,List.length_nil,Nat.zero_add,List.range_succ,List.all_append,List.all_cons,List.all_nil,Bool.and_true]
 congr 1
 ·apply Bool.eq_iff_iff.2
  rw [List.all_eq_true,List.all_eq_true]
  constructor<;>intro h i hi
  ·have hlt:=List.mem_range.1 hi
   have:=h i hi
   rwa [List.take_append_of_le_length (by omega),Zo1 _ _ _ hlt] at this
  ·have hlt:=List.mem_range.1 hi
   have:=h i hi
   rwa [List.take_append_of_le_length (by omega),Zo1 _ _ _ hlt]
 ·rw [List.take_left' rfl,Zvh]
theorem ZxK {α:Type} {P:List α→Prop} (h0:P []) (h1:∀l x,P l→P (l++[x])) (l:List α):P l:=by
 have:∀r:List α,P r.reverse:=fun r=>by
  induction r with
  | nil=>exact h0
  | cons x r ih=>rw [List.reverse_cons];exact h1 _ _ ih
 have h:=this l.reverse
 rwa [List.reverse_reverse] at h
theorem Zsl (ns:List Str):ZfA ns=true↔ns.Pairwise fun a b=>hit b a=false:=by
 refine ZxK (P:=fun ns:List Str=>ZfA ns=true↔ns.Pairwise fun a b=>hit b a=false) (by simp [ZfA]) (fun ns n ih=>?_) ns
 rw [ZnE,Bool.and_eq_true,ih,List.all_eq_true,List.pairwise_append]
 constructor
 ·rintro ⟨h1,h2⟩
  refine ⟨h1,by simp,fun a ha b hb=>?_⟩
  have:b=n:=by simpa using hb
  subst this
  have:=h2 a ha
  rwa [Bool.not_eq_true'] at this
 ·rintro ⟨h1,_,h2⟩
  exact ⟨h1,fun a ha=>by rw [Bool.not_eq_true'];exact h2 a ha n (by simp)⟩
def Zss (ns:List Str):Prop:=ns.Pairwise fun a b=>hit b a=false
theorem Zc2 (es:List Fil):ZdD es=true↔(∀e∈es,Zcb e=true)∧es.length≤6∧Zss (es.map Prod.fst):=by
 unfold ZdD
 simp only [Bool.and_eq_true,List.all_eq_true,decide_eq_true_eq,Zsl]
 rfl
theorem ZiA (ns:List Str):ZfA ns=true↔Zss ns:=Zsl ns
end Ev
end
section
namespace Ev
open Go
theorem Zf0 {α ρ:Type} (a:α) (k:α→Option ρ) (y:Option ρ):Zf1 (some a) k y=k a:=Eq.trans rfl rfl
def atM (es:List Fil) (n:Str):Option Nat:=es.findIdx? fun e=>e.1==n
def atZ:Option Nat→Int
 | none=>-1
 | some i=>(i:Int)
theorem ZjJ (es:List Fil) (n:Str) (hn:es.length≤1048576):∀(j i:Nat),i+j=es.length→
  Za8.l0 (j+1) (es,(es.length:Int),(i:Int),n)=some (match atM (es.drop i) n with | none=>.inl n | some k=>.inr (((i+k:Nat):Int),n))
 | 0,i,h=>by
  rw [Za8.l0.succ];simp only [Za8.l0.step]
  rw [ZaR (by omega),List.drop_eq_nil_of_le (by omega)];rfl
 | j+1,i,h=>by
  have hi:i<es.length:=by omega
  rw [Za8.l0.succ];simp only [Za8.l0.step]
  rw [ZaQ hi,cond_true,Zab _ Zau,Int.toNat_natCast,Zd8 es i hi]
  simp only [ZkO,Zaa]
  rw [Zaf (by omega) (by omega),show (i:Int)+1=((i+1:Nat):Int) by omega,ZjJ es n hn j (i+1) (by omega)]
  unfold atM
  rw [List.drop_eq_getElem_cons hi,List.findIdx?_cons]
  cases es[i].1==n with
  | true=>simp
  | false=>
   simp only [cond_false,Bool.false_eq_true,if_false]
   cases (es.drop (i+1)).findIdx? (fun e=>e.1==n) with
   | none=>rfl
   | some k=>simp only [Option.map_some];congr 3;omega
theorem Ztb (es:List Fil) (n:Str) (hn:es.length≤1048576):find es n=some (atZ (atM es n)):=by
 have h:=ZjJ es n hn es.length 0 (by omega)
 rw [show ((0:Nat):Int)=0 from rfl,List.drop_zero] at h
 unfold find Za8
 rw [ZaG,h]
 cases atM es n with
 | none=>rfl
 | some k=>simp [atZ]
theorem ZtV (es:List Fil) (n:Str) (hn:es.length≤1048576):∀(j i:Nat),i+j=es.length→
  Zgd.l0 (j+1) (es,n,(i:Int))=some (match atM (es.drop i) n with | none=>.inl () | some k=>.inr ((i+k:Nat):Int))
 | 0,i,h=>by
  rw [Zgd.l0.succ];simp only [Zgd.l0.step]
  rw [ZaR (by omega),List.drop_eq_nil_of_le (by omega)];rfl
 | j+1,i,h=>by
  have hi:i<es.length:=by omega
  rw [Zgd.l0.succ];simp only [Zgd.l0.step]
  rw [ZaQ hi,cond_true,Zab _ Zau,Int.toNat_natCast,Zd8 es i hi,Zaf (by omega) (by omega),show (i:Int)+1=((i+1:Nat):Int) by omega,ZtV es n hn j (i+1) (by omega)]
  unfold atM
  rw [List.drop_eq_getElem_cons hi,List.findIdx?_cons]
  cases es[i].1==n with
  | true=>simp
  | false=>
   simp only [cond_false,Bool.false_eq_true,if_false]
   cases (es.drop (i+1)).findIdx? (fun e=>e.1==n) with
   | none=>rfl
   | some k=>simp only [Option.map_some];congr 3;omega
theorem ZkD (es:List Fil) (n:Str) (hn:es.length≤1048576):Zgd es n=some (atZ (atM es n)):=by
 have h:=ZtV es n hn es.length 0 (by omega)
 rw [show ((0:Nat):Int)=0 from rfl,List.drop_zero] at h
 unfold Zgd
 rw [ZaG,h]
 cases atM es n with
 | none=>rfl
 | some k=>simp [atZ]
theorem ZeO {es:List Fil} {n:Str} {i:Nat} (h:atM es n=some i):∃hi:i<es.length,es[i].1=n:=by
 obtain ⟨hi,h1,_⟩:=List.findIdx?_eq_some_iff_getElem.1 h
 exact ⟨hi,by simpa using h1⟩
theorem ZyH {es:List Fil} {n:Str} (h:atM es n=none):∀e∈es,e.1≠n:=fun e he=>by
 have:=List.findIdx?_eq_none_iff.1 h e he
 simpa using this
def Zek (es:List Fil) (n:Str):Bool:=es.any fun e=>hit n e.1
theorem ZwR (a n:Str):hit n a=(a==n||(Zge a n||Zge n a)):=by
 unfold hit
 rw [Zju,Zju]
 congr 1
 rw [Bool.eq_iff_iff,beq_iff_eq,beq_iff_eq]
 exact eq_comm
theorem ZoM (es:List Fil) (n:Str) (hn:es.length≤1048576):∀(j i:Nat),i+j=es.length→
  ZbU.l0 (j+1) (es,n,(i:Int))=some (if Zek (es.drop i) n then .inr true else .inl ())
 | 0,i,h=>by
  rw [ZbU.l0.succ];simp only [ZbU.l0.step]
  rw [ZaR (by omega),List.drop_eq_nil_of_le (by omega)];rfl
 | j+1,i,h=>by
  have hi:i<es.length:=by omega
  rw [ZbU.l0.succ];simp only [ZbU.l0.step]
  rw [ZaQ hi,cond_true,Zab _ Zau,Zab _ Zau,Zab _ Zau,Int.toNat_natCast,Zd8 es i hi,ZkC,ZkC,Zaf (by omega) (by omega),show (i:Int)+1=((i+1:Nat):Int) by omega,ZoM es n hn j (i+1) (by omega)]
  simp only [Zaa]
  have hc:Zek (es.drop i) n=(hit n es[i].1||Zek (es.drop (i+1)) n):=by unfold Zek;rw [List.drop_eq_getElem_cons hi,List.any_cons]
  rw [hc,ZwR]
  cases es[i].1==n<;>cases Zge es[i].1 n<;>cases Zge n es[i].1<;>cases Zek (es.drop (i+1)) n<;>rfl
theorem ZoN (es:List Fil) (n:Str) (hn:es.length≤1048576):ZbU es n=some (Zek es n):=by
 have h:=ZoM es n hn es.length 0 (by omega)
 rw [show ((0:Nat):Int)=0 from rfl,List.drop_zero] at h
 unfold ZbU
 rw [ZaG,h]
 cases Zek es n<;>rfl
theorem Zsk (es:List Fil) (n:Str) (h:ZfA (es.map Prod.fst)=true):ZfA (es.map Prod.fst++[n])= !Zek es n:=by
 rw [ZnE,h,Bool.true_and]
 unfold Zek
 rw [List.all_map]
 induction es with
 | nil=>rfl
 | cons e r ih=>
  have hr:ZfA (r.map Prod.fst)=true:=by
   rw [ZiA] at h ⊢
   exact (List.pairwise_cons.1 h).2
  rw [List.all_cons,List.any_cons,ih hr,Bool.not_or];rfl
def ZfT (es:List Fil) (e:Fil):Int:=if Zcb e=false then 1 else if Zek es e.1=true then 3 else if 6≤es.length then 4 else 0
theorem Zkb {es:List Fil} (h:ZdD es=true):ZfA (es.map Prod.fst)=true:=by
 unfold ZdD at h
 simp only [Bool.and_eq_true] at h
 exact h.2.2
theorem Zig {es:List Fil} (h:ZdD es=true):∀e∈es,e.1.length≤43:=fun e he=>(ZdE (ZbW ((ZaK h).1 e he)).1).2
theorem ZnG (es:List Fil) (h:ZdD es=true) (e:Fil) (he:e.1.length≤1048576):ZcZ e.1 e.2.1 e.2.2.1 e.2.2.2.1 e.2.2.2.2.1 e.2.2.2.2.2.1 e.2.2.2.2.2.2.1 e.2.2.2.2.2.2.2 es=some (ZfT es e,if ZfT es e=0 then es++[e] else []):=by
 obtain ⟨h1,h2⟩:=ZaK h
 have hnm:=Zig h
 unfold ZcZ ZfT
 rw [Zp8 e he]
 simp only [Zaa]
 cases hf:Zcb e with
 | false=>rfl
 | true=>
  simp only [Bool.not_true,cond_false]
  rw [Ziq es (by omega)]
  simp only [Zaa]
  rw [Zad (by simp;omega),Zqg _ (by simp;omega) (fun b hb=>by
   rcases List.mem_append.1 hb with hb | hb
   ·obtain ⟨x,hx,rfl⟩:=List.mem_map.1 hb
    have:=hnm x hx;omega
   ·have:b=e.1:=by simpa using hb
    subst this;exact he)]
  simp only [Zaa]
  have ha:=Zsk es e.1 (Zkb h)
  unfold ZfA at ha
  rw [ha,Bool.not_not]
  cases Zek es e.1 with
  | true=>rfl
  | false=>
   rw [cond_false]
   by_cases h6:es.length=6
   ·rw [show ((es.length:Int)==6)=true by simp [h6],h6];rfl
   ·rw [show ((es.length:Int)==6)=false by simp;omega,cond_false,Zad (by simp;omega)]
    have:¬6≤es.length:=by omega
    simp [this]
theorem ZpO (es:List Fil) (hn:es.length≤1000) (e:Fil) (he:e.1.length≤1048576):Zgg e.1 e.2.1 e.2.2.1 e.2.2.2.1 e.2.2.2.2.1 e.2.2.2.2.2.1 e.2.2.2.2.2.2.1 e.2.2.2.2.2.2.2 es=some (ZfT es e,if ZfT es e=0 then es++[e] else es):=by
 unfold Zgg ZfT
 rw [Zk8 e he]
 simp only [Zaa]
 cases hf:Zcb e with
 | false=>rfl
 | true=>
  simp only [Bool.not_true,cond_false]
  rw [ZoN es e.1 (by omega)]
  simp only [Zaa]
  cases Zek es e.1 with
  | true=>rfl
  | false=>
   rw [cond_false]
   by_cases h6:6≤es.length
   ·rw [decide_eq_true (by omega),cond_true];simp [h6]
   ·rw [decide_eq_false (by omega),cond_false,Zad (by simp;omega),Zad (by simp;omega),List.nil_append]
    simp [h6]
theorem Zem {es:List Fil} (h:ZdD es=true) {e:Fil} (hc:ZfT es e=0):ZdD (es++[e])=true∧Zcb e=true∧Zek es e.1=false∧es.length<6:=by
 unfold ZfT at hc
 cases hf:Zcb e with
 | false=>rw [hf] at hc;simp at hc
 | true=>
  rw [hf] at hc
  cases hcl:Zek es e.1 with
  | true=>rw [hcl] at hc;simp at hc
  | false=>
   rw [hcl] at hc
   have h6:es.length<6:=by
    rcases Nat.lt_or_ge es.length 6 with q | q
    ·exact q
    ·simp [q] at hc
   refine ⟨?_,rfl,rfl,h6⟩
   obtain ⟨g1,g2,g3⟩:=(Zc2 es).1 h
   rw [Zc2]
   refine ⟨fun x hx=>?_,by simp;omega,?_⟩
   ·rcases List.mem_append.1 hx with hx | hx
    ·exact g1 x hx
    ·have:x=e:=by simpa using hx
     subst this;exact hf
   ·rw [List.map_append,List.map_cons,List.map_nil]
    exact (ZiA _).1 (by rw [Zsk es e.1 (Zkb h),hcl];rfl)
def Zha (s:Str) (e:Fil):Str×Int:=match Za3 s with
 | none=>([],1)
 | some es=>if ZfT es e=0 then (Zd0 (es++[e]),0) else (s,ZfT es e)
theorem Zfb {es:List Fil} (h:ZdD es=true):∀e∈es,e.1.length≤1048576:=fun e he=>by have:=Zig h e he;omega
theorem ZhJ (s:Str) (hs:s.length≤1048576) (e:Fil) (he:e.1.length≤1048576):Zdk s e.1 e.2.1 e.2.2.1 e.2.2.2.1 e.2.2.2.2.1 e.2.2.2.2.2.1 e.2.2.2.2.2.2.1 e.2.2.2.2.2.2.2=some (Zha s e):=by
 unfold Zdk ZcC Zha
 rw [Zeg s hs]
 simp only [Zaa]
 cases hz:Za3 s with
 | none=>rfl
 | some es=>
  have hok:=Zbv hz
  have h6:=(ZaK hok).2
  simp only [Zpk,Bool.not_true,cond_false]
  unfold ZeX
  rw [ZnG es hok e he]
  simp only [Zaa]
  by_cases hc:ZfT es e=0
  ·have hzz:=(Zem hok hc).1
   rw [if_pos hc,if_pos hc,show (ZfT es e != 0)=false by simp [hc],cond_false,ZgO _ (by simp;omega) (Zfb hzz),if_pos hzz]
   simp only [Zaa,Zf0]
  ·rw [if_neg hc,if_neg hc,show (ZfT es e != 0)=true by simp [hc],cond_true,Zf0]
theorem Zjp (s:Str) (hs:s.length≤1048576) (e:Fil) (he:e.1.length≤1048576):ZbJ s e.1 e.2.1 e.2.2.1 e.2.2.2.1 e.2.2.2.2.1 e.2.2.2.2.2.1 e.2.2.2.2.2.2.1 e.2.2.2.2.2.2.2=some (Zha s e):=by
 unfold ZbJ Zha
 rw [Zd6 s hs]
 simp only [Zaa]
 cases hz:Za3 s with
 | none=>rfl
 | some es=>
  have hok:=Zbv hz
  have h6:=(ZaK hok).2
  simp only [Zpk,Bool.not_true,cond_false]
  rw [ZpO es (by omega) e he]
  simp only [Zaa]
  by_cases hc:ZfT es e=0
  ·have hzz:=(Zem hok hc).1
   rw [if_pos hc,if_pos hc,show (ZfT es e != 0)=false by simp [hc],cond_false,Zis _ (by simp;omega) (ZaK hzz).1]
   simp only [Zaa]
  ·rw [if_neg hc,if_neg hc,show (ZfT es e != 0)=true by simp [hc],cond_true]
def Zdf (es:List Fil) (i:Nat):List Fil:=es.take i++es.drop (i+1)
theorem Zh3 (es:List Fil) (i:Nat):(Zdf es i).Sublist es:=by
 unfold Zdf
 rw [←List.eraseIdx_eq_take_drop_succ]
 exact List.eraseIdx_sublist ..
theorem Zjk {es fs:List Fil} (h:ZdD es=true) (hs:fs.Sublist es):ZdD fs=true:=by
 obtain ⟨g1,g2,g3⟩:=(Zc2 es).1 h
 rw [Zc2]
 exact ⟨fun e he=>g1 e (hs.subset he),Nat.le_trans hs.length_le g2,g3.sublist (hs.map _)⟩
def ZfE (s n:Str):Str×Int:=match Za3 s with
 | none=>([],1)
 | some es=>match atM es n with
  | none=>(s,2)
  | some i=>(Zd0 (Zdf es i),0)
theorem Zn9 (s n:Str) (hs:s.length≤1048576):Zdj s n=some (ZfE s n):=by
 unfold Zdj ZbP ZfE
 rw [Zeg s hs]
 simp only [Zaa]
 cases hz:Za3 s with
 | none=>rfl
 | some es=>
  have hok:=Zbv hz
  have h6:=(ZaK hok).2
  simp only [Zpk,Bool.not_true,cond_false]
  unfold Zd4
  rw [Ztb es n (by omega)]
  simp only [Zaa]
  cases ha:atM es n with
  | none=>rfl
  | some i=>
   obtain ⟨hi,_⟩:=ZeO ha
   have hzz:=Zjk hok (Zh3 es i)
   rw [show atZ (some i)=(i:Int) from rfl]
   rw [decide_eq_false (by omega),cond_false,Zaf (by omega) (by omega)]
   unfold Zh4
   rw [Zab _ (by simp;omega)]
   simp only [Zaa]
   rw [show ((i:Int)+1).toNat=i+1 by omega,Int.toNat_natCast]
   show Zf1 (((bif ((0:Int) != 0) then _ else _))) _ _=_
   rw [show ((0:Int) != 0)=false from rfl,cond_false]
   have hle:(Zdf es i).length≤6:=(ZaK hzz).2
   have:=ZgO (Zdf es i) (by omega) (Zfb hzz)
   rw [if_pos hzz] at this
   unfold Zdf at this ⊢
   rw [this]
   simp only [Zaa,Zf0]
theorem Zlo (es:List Fil) (hn:es.length≤1000) (i:Nat) (hi:i<es.length):Zco es (i:Int)=some (Zdf es i):=by
 unfold Zco Zdf
 rw [Zaf (by omega) (by omega),show ((i:Int)+1)=((i+1:Nat):Int) by omega,Int.toNat_natCast,Int.toNat_natCast]
 rw [Zab _ (by simp;omega),Zad (by simp;omega),Zab _ (by simp;omega),Zad (by simp;omega),List.nil_append]
theorem ZnN (s n:Str) (hs:s.length≤1048576):Zb5 s n=some (ZfE s n):=by
 unfold Zb5 ZfE
 rw [Zd6 s hs]
 simp only [Zaa]
 cases hz:Za3 s with
 | none=>
  simp only [Zpk]
  rw [ZkD [] n (by simp)]
  rfl
 | some es=>
  have hok:=Zbv hz
  have h6:=(ZaK hok).2
  simp only [Zpk,Bool.not_true,cond_false]
  rw [ZkD es n (by omega)]
  simp only [Zaa]
  cases ha:atM es n with
  | none=>rfl
  | some i=>
   obtain ⟨hi,_⟩:=ZeO ha
   have hzz:=Zjk hok (Zh3 es i)
   rw [show atZ (some i)=(i:Int) from rfl]
   rw [decide_eq_false (by omega),cond_false,Zlo es (by omega) i hi]
   simp only [Zaa]
   have hle:(Zdf es i).length≤6:=(ZaK hzz).2
   rw [Zis _ (by omega) (ZaK hzz).1]
   simp only [Zaa]
end Ev
end
section
namespace Ev
open Go
theorem Zv0 (xs:List Int) {b:List Int} {p:Int} (h:Zlz b p) (hp:p≤1000000000) (hx:0<xs.length) (hx2:xs.length≤1000000000):Ret (ZgG xs b p) (Zji b p 1 fun x=>x∈xs):=by
 unfold ZgG
 refine .bind (ZpH _ h hp (by omega)) ?_
 rintro ⟨r,b',p'⟩ ⟨rfl,rfl,h0,h1⟩
 dsimp only at h0 h1 ⊢
 have hlt:r<xs.length:=by omega
 ((try simp (disch:=omega) only [Zan,Zam,Zak,Zad,Zat,ZaT,Zaf,ZaB,Zax,Zae,Option.map_some,cond_true,cond_false,Int.sub_zero,Int.toNat_natCast]);(try simp only [Zbr,ZdZ,Zd1,Zav,Zbz,if_true,if_false]))
 refine .pure ⟨rfl,by dsimp only;omega,by dsimp only;omega,?_⟩
 dsimp only
 rw [Zal (by omega)]
 exact List.getElem_mem _
theorem ZzB (y mo:Int):∃n,Zpb y mo=some n∧28≤n:=by
 unfold Zpb
 cases (mo==4)<;>cases (mo==6)<;>cases (mo==9)<;>cases (mo==11)<;>simp only [cond_true,cond_false,Zaa]<;>first
  | exact ⟨30,rfl,by omega⟩
  | (cases (mo==2)<;>simp only [cond_true,cond_false,Zaa]<;>first
    | exact ⟨31,rfl,by omega⟩
    | (cases (y.tmod 4==0)<;>simp only [cond_true,cond_false,Zaa]<;>first
      | exact ⟨28,rfl,by omega⟩
      | (cases (y.tmod 100 != 0)<;>simp only [cond_true,cond_false,Zaa]<;>first
        | exact ⟨29,rfl,by omega⟩
        | (cases (y.tmod 400==0)<;>first
          | exact ⟨29,rfl,by omega⟩
          | exact ⟨28,rfl,by omega⟩))))
theorem ZyC (y mo:Int):28≤ZnZ y mo:=by
 obtain ⟨n,h,h2⟩:=ZzB y mo
 unfold ZnZ;rw [h];exact h2
theorem ZyP {y mo d h mi s:Int} (h1:1980≤y∧y≤2107) (h2:1≤mo∧mo≤12) (h3:1≤d∧d≤28) (h4:0≤h∧h≤23) (h5:0≤mi∧mi≤59) (h6:0≤s∧s≤58) (h7:s%2=0):stM y mo d h mi s=true:=by
 have:=ZyC y mo
 unfold stM
 rw [decide_eq_true h1,decide_eq_true h2,decide_eq_true (⟨h3.1,by omega⟩:1≤d∧d≤ZnZ y mo),decide_eq_true h4,decide_eq_true h5,decide_eq_true h6,ZaB (by omega),h7]
 rfl
def Zy4 (b:List Int) (p c:Int) (Q:Int→Int→Int→Int→Int→Int→Prop) (r:Int×Int×Int×Int×Int×Int×List Int×Int):Prop:=∃y mo d h mi s p',r=(y,mo,d,h,mi,s,b,p')∧p≤p'∧p'≤p+c∧Q y mo d h mi s
theorem Ziu {b:List Int} {p:Int} (h:Zlz b p) (hp:p≤900000000):Ret (Zcl b p) (Zy4 b p 6 fun y mo d h mi s=>stM y mo d h mi s=true):=by
 unfold Zcl
 refine .bind (Zv0 _ h (by omega) (by decide) (by decide)) ?_
 rintro ⟨y,b1,p1⟩ ⟨rfl,g1,g2,g3⟩
 dsimp only at g1 g2 g3 ⊢
 refine .bind (Zeu 12 (h.up g1) (by omega) (by omega) (by omega)) ?_
 rintro ⟨mo,b2,p2⟩ ⟨rfl,k1,k2,k3⟩
 dsimp only at k1 k2 k3 ⊢
 refine .bind (Zeu 28 ((h.up g1).up k1) (by omega) (by omega) (by omega)) ?_
 rintro ⟨d,b3,p3⟩ ⟨rfl,l1,l2,l3⟩
 dsimp only at l1 l2 l3 ⊢
 refine .bind (Zeu 24 (((h.up g1).up k1).up l1) (by omega) (by omega) (by omega)) ?_
 rintro ⟨hh,b4,p4⟩ ⟨rfl,m1,m2,m3⟩
 dsimp only at m1 m2 m3 ⊢
 refine .bind (Zeu 60 ((((h.up g1).up k1).up l1).up m1) (by omega) (by omega) (by omega)) ?_
 rintro ⟨mi,b5,p5⟩ ⟨rfl,n1,n2,n3⟩
 dsimp only at n1 n2 n3 ⊢
 refine .bind (Zeu 30 (((((h.up g1).up k1).up l1).up m1).up n1) (by omega) (by omega) (by omega)) ?_
 rintro ⟨s,b6,p6⟩ ⟨rfl,o1,o2,o3⟩
 dsimp only at o1 o2 o3 ⊢
 rw [Zaf (by omega) (by omega),Zaf (by omega) (by omega),Zaf (by omega) (by omega)]
 refine .pure ⟨y,_,_,hh,mi,_,p6,rfl,by omega,by omega,?_⟩
 have hy:1980≤y∧y≤2107:=by
  simp only [List.mem_cons,List.not_mem_nil,or_false] at g3
  rcases g3 with rfl | rfl | rfl | rfl<;>omega
 exact ZyP hy (by omega) (by omega) (by omega) (by omega) (by omega) (by omega)
theorem ZpR {b:List Int} {p:Int} (h:Zlz b p) (hp:p≤800000000):Ret (Zb8 b p) (Zy4 b p 8 fun y mo d h mi s=>True):=by
 unfold Zb8
 refine .bind (Ziu h (by omega)) ?_
 rintro _ ⟨y,mo,d,hh,mi,s,p1,rfl,g1,g2,_⟩
 dsimp only
 refine .bind (Zeu 10 (h.up g1) (by omega) (by omega) (by omega)) ?_
 rintro ⟨x,b2,p2⟩ ⟨rfl,k1,k2,k3⟩
 dsimp only at k1 k2 k3 ⊢
 have h2:=(h.up g1).up k1
 refine .cond (fun _=>?_) fun _=>.cond (fun _=>?_) fun _=>.cond (fun _=>?_) fun _=>.cond (fun _=>?_) fun _=>.pure ⟨_,_,_,_,_,_,_,rfl,by omega,by omega,trivial⟩
 all_goals
  refine .bind (Zv0 _ h2 (by omega) (by decide) (by decide)) ?_
  rintro ⟨z,b3,p3⟩ ⟨rfl,l1,l2,l3⟩
  dsimp only at l1 l2 l3 ⊢
  exact .pure ⟨_,_,_,_,_,_,_,rfl,by omega,by omega,trivial⟩
def entZ (e:Fil) (b:List Int) (p:Int):Str×Int×Int×Int×Int×Int×Int×Str×List Int×Int:=(e.1,e.2.1,e.2.2.1,e.2.2.2.1,e.2.2.2.2.1,e.2.2.2.2.2.1,e.2.2.2.2.2.2.1,e.2.2.2.2.2.2.2,b,p)
def Zxx (b:List Int) (p c:Int) (Q:Fil→Prop) (r:Str×Int×Int×Int×Int×Int×Int×Str×List Int×Int):Prop:=∃e p',r=entZ e b p'∧p≤p'∧p'≤p+c∧Q e
theorem Zvc {b:List Int} {p:Int} (h:Zlz b p) (hp:p≤900000000):Ret (ZbV b p) (Zji b p 1 fun s=>ZcG s=true∧s∈ZpK):=by
 unfold ZbV
 refine .bind (Zjt _ h (by omega) (by decide) (by decide)) ?_
 rintro ⟨x,b2,p2⟩ ⟨rfl,k1,k2,k3⟩
 dsimp only at k1 k2 k3 ⊢
 refine .pure ⟨rfl,k1,k2,?_⟩
 dsimp only
 simp only [List.mem_cons,List.not_mem_nil,or_false] at k3
 rcases k3 with rfl | rfl | rfl | rfl | rfl | rfl | rfl<;>exact ⟨by decide +kernel,by decide⟩
theorem Zvd {b:List Int} {p:Int} (h:Zlz b p) (hp:p≤800000000):Ret (Zcz b p) (Zxx b p 57 fun e=>Zcb e=true∧e.1∈ZpK):=by
 unfold Zcz
 refine .bind (Zvc h (by omega)) ?_
 rintro ⟨nm,b1,p1⟩ ⟨rfl,g1,g2,g3⟩
 dsimp only at g1 g2 g3 ⊢
 refine .bind (Ziu (h.up g1) (by omega)) ?_
 rintro _ ⟨y,mo,d,hh,mi,s,p2,rfl,k1,k2,k3⟩
 dsimp only
 refine .bind (ZmU ((h.up g1).up k1) (by omega)) ?_
 rintro ⟨t,b3,p3⟩ ⟨rfl,l1,l2,l3⟩
 dsimp only at l1 l2 l3 ⊢
 refine .pure ⟨(nm,y,mo,d,hh,mi,s,t),p3,rfl,by omega,by omega,?_,g3.2⟩
 unfold Zcb
 dsimp only
 rw [g3.1,k3,decide_eq_true l3];rfl
def Ztj (e:Fil):Prop:=e.1∈ZpK∧e.txt.length≤301
theorem Ztj.len {e:Fil} (h:Ztj e):e.1.length≤11:=Zwj _ h.1
theorem Zyu {e:Fil} (h:Zcb e=true) (hn:e.1∈ZpK):Ztj e:=by
 obtain ⟨h1,h2,h3⟩:=ZbW h
 exact ⟨hn,by omega⟩
theorem ZpT {b:List Int} {p:Int} (h:Zlz b p) (hp:p≤700000000):Ret (Zb9 b p) (Zxx b p 120 Ztj):=by
 unfold Zb9
 refine .bind (Zvd h (by omega)) ?_
 rintro _ ⟨e,p1,rfl,g1,g2,g3⟩
 have hsm:=Zyu g3.1 g3.2
 unfold entZ
 dsimp only
 refine .bind (Zeu 10 (h.up g1) (by omega) (by omega) (by omega)) ?_
 rintro ⟨x,b2,p2⟩ ⟨rfl,k1,k2,k3⟩
 dsimp only at k1 k2 k3 ⊢
 have h2:=(h.up g1).up k1
 refine .cond (fun _=>?_) fun _=>.cond (fun _=>?_) fun _=>.cond (fun _=>?_) fun _=>.pure ⟨e,p2,rfl,by omega,by omega,hsm⟩
 ·refine .bind (ZpS h2 (by omega)) ?_
  rintro ⟨z,b3,p3⟩ ⟨rfl,l1,l2,l3⟩
  dsimp only at l1 l2 l3 ⊢
  exact .pure ⟨(z,e.2),p3,rfl,by omega,by omega,l3,hsm.2⟩
 ·refine .bind (ZpR h2 (by omega)) ?_
  rintro _ ⟨y,mo,d,hh,mi,s,p3,rfl,l1,l2,_⟩
  dsimp only
  exact .pure ⟨(e.1,y,mo,d,hh,mi,s,e.txt),p3,rfl,by omega,by omega,hsm⟩
 ·refine .bind (Zrz h2 (by omega)) ?_
  rintro ⟨z,b3,p3⟩ ⟨rfl,l1,l2,l3⟩
  dsimp only at l1 l2 l3 ⊢
  exact .pure ⟨(e.1,e.2.1,e.2.2.1,e.2.2.2.1,e.2.2.2.2.1,e.2.2.2.2.2.1,e.2.2.2.2.2.2.1,z),p3,rfl,by omega,by omega,hsm.1,l3⟩
def DrawnL (b:List Int) (p c:Int) (Q:List Fil→Prop) (r:List Int×Int×List Fil):Prop:=r.1=b∧p≤r.2.1∧r.2.1≤p+c∧Q r.2.2
theorem Zw2 (k:Nat) (hk:k<6) {y mo d h mi s:Int} (hs:stM y mo d h mi s=true):ZgK (k:Int)=some [UInt8.ofNat (48+k)]∧[102]++[UInt8.ofNat (48+k)]∈ZpK∧Zcb ([102]++[UInt8.ofNat (48+k)],y,mo,d,h,mi,s,[])=true:=by
 have h1:ZgK (k:Int)=some [UInt8.ofNat (48+k)]∧[102]++[UInt8.ofNat (48+k)]∈ZpK∧ZcG ([102]++[UInt8.ofNat (48+k)])=true:=by
  rcases k with _ | _ | _ | _ | _ | _ | k
  ·exact ⟨by decide +kernel,by decide,by decide +kernel⟩
  ·exact ⟨by decide +kernel,by decide,by decide +kernel⟩
  ·exact ⟨by decide +kernel,by decide,by decide +kernel⟩
  ·exact ⟨by decide +kernel,by decide,by decide +kernel⟩
  ·exact ⟨by decide +kernel,by decide,by decide +kernel⟩
  ·exact ⟨by decide +kernel,by decide,by decide +kernel⟩
  ·omega
 refine ⟨h1.1,h1.2.1,?_⟩
 unfold Zcb
 dsimp only
 rw [h1.2.2,hs];rfl
def Zg9 (xs:List Int):Prop:=∀x∈xs,0≤x∧x≤255
theorem ZlQ (xs:List Int) (h:Zg9 xs) (hl:xs.length≤1048576):Ret (Zdu xs) fun r=>r.2=0∧Zlz r.1 r.2:=by
 unfold Zdu
 by_cases c:xs.length>2000
 ·rw [decide_eq_true (by omega),cond_true,Zab _ (by simp;omega)]
  refine .pure ⟨rfl,?_,fun x hx=>h x (List.mem_of_mem_take hx),by omega⟩
  rw [List.length_take];exact Nat.min_le_left ..
 ·rw [decide_eq_false (by omega),cond_false]
  exact .pure ⟨rfl,by dsimp only;omega,h,by omega⟩
end Ev
end
section
namespace Ev
open Go
def ZfC (s:Str) (e:Fil):Str×Int:=match Za3 s with
 | none=>([],1)
 | some es=>if Zcb e=false then (s,1) else match atM es e.1 with
  | none=>(s,2)
  | some i=>(Zd0 (es.set i e),0)
theorem ZlF {es:List Fil} (h:ZdD es=true) {e:Fil} (hf:Zcb e=true) {i:Nat} (hi:i<es.length) (hn:es[i].1=e.1):ZdD (es.set i e)=true:=by
 obtain ⟨g1,g2,g3⟩:=(Zc2 es).1 h
 rw [Zc2]
 refine ⟨fun x hx=>?_,by rw [List.length_set];exact g2,?_⟩
 ·rcases List.mem_or_eq_of_mem_set hx with hx | rfl
  ·exact g1 x hx
  ·exact hf
 ·have:(es.set i e).map Prod.fst=es.map Prod.fst:=by
   apply List.ext_getElem (by simp)
   intro k h1 h2
   rw [List.getElem_map,List.getElem_map,List.getElem_set]
   split
   ·rename_i hk;subst hk;exact hn.symm
   ·rfl
  rw [this];exact g3
theorem Zn5 (s:Str) (hs:s.length≤1048576) (e:Fil) (he:e.1.length≤1048576):Zen s e.1 e.2.1 e.2.2.1 e.2.2.2.1 e.2.2.2.2.1 e.2.2.2.2.2.1 e.2.2.2.2.2.2.1 e.2.2.2.2.2.2.2=some (ZfC s e):=by
 unfold Zen ZbM ZfC
 rw [Zeg s hs]
 simp only [Zaa]
 cases hz:Za3 s with
 | none=>rfl
 | some es=>
  have hok:=Zbv hz
  have h6:=(ZaK hok).2
  simp only [Zpk,Bool.not_true,cond_false]
  unfold Zd2
  rw [Ztb es e.1 (by omega)]
  simp only [Zaa]
  rw [Zp8 e he]
  simp only [Zaa]
  cases hf:Zcb e with
  | false=>rfl
  | true=>
   simp only [Bool.not_true,cond_false]
   rw [if_neg (by simp)]
   cases ha:atM es e.1 with
   | none=>rfl
   | some i=>
    obtain ⟨hi,hn⟩:=ZeO ha
    have hzz:=ZlF hok hf hi hn
    rw [show atZ (some i)=(i:Int) from rfl]
    rw [decide_eq_false (by omega),cond_false,Zab _ (by simp;omega),Int.toNat_natCast]
    simp only [Zaa]
    rw [show ((0:Int) != 0)=false from rfl,cond_false]
    have:=ZgO (es.set i e) (by simp;omega) (Zfb hzz)
    rw [if_pos hzz] at this
    show Zf1 ((Za6 (es.set i e)).bind _) _ _=_
    rw [this]
    simp only [Zaa,Zf0]
theorem ZnL (s:Str) (hs:s.length≤1048576) (e:Fil) (he:e.1.length≤1048576):Zb3 s e.1 e.2.1 e.2.2.1 e.2.2.2.1 e.2.2.2.2.1 e.2.2.2.2.2.1 e.2.2.2.2.2.2.1 e.2.2.2.2.2.2.2=some (ZfC s e):=by
 unfold Zb3 ZfC
 rw [Zd6 s hs]
 simp only [Zaa]
 cases hz:Za3 s with
 | none=>
  simp only [Zpk]
  rw [ZkD [] e.1 (by simp)]
  rfl
 | some es=>
  have hok:=Zbv hz
  have h6:=(ZaK hok).2
  simp only [Zpk,Bool.not_true,cond_false]
  rw [ZkD es e.1 (by omega)]
  simp only [Zaa]
  rw [Zk8 e he]
  simp only [Zaa]
  cases hf:Zcb e with
  | false=>rfl
  | true=>
   simp only [Bool.not_true,cond_false]
   rw [if_neg (by simp)]
   cases ha:atM es e.1 with
   | none=>rfl
   | some i=>
    obtain ⟨hi,hn⟩:=ZeO ha
    have hzz:=ZlF hok hf hi hn
    rw [show atZ (some i)=(i:Int) from rfl]
    rw [decide_eq_false (by omega),cond_false,Zab _ (by simp;omega),Int.toNat_natCast]
    have:=Zis (es.set i e) (by simp;omega) (ZaK hzz).1
    show (ZcL (es.set i e)).bind _=_
    rw [this]
    simp only [Zaa]
def ZgU (es:List Fil) (i:Nat) (to_:Str):List Fil:=es.set i (to_,(es.getD i Fil.z).2)
def ZfD (s n to_:Str):Str×Int:=match Za3 s with
 | none=>([],1)
 | some es=>if ZcG to_=false then (s,1) else match atM es n with
  | none=>(s,2)
  | some i=>if Zek (Zdf es i) to_=true then (s,3) else (Zd0 (ZgU es i to_),0)
theorem Zor (es:List Fil) (i:Nat) (to_:Str) (hi:i<es.length):(ZgU es i to_).map Prod.fst=(es.map Prod.fst).take i++to_::(es.map Prod.fst).drop (i+1):=by
 unfold ZgU
 rw [List.map_set,List.set_eq_take_append_cons_drop,if_pos (by rw [List.length_map];exact hi)]
theorem ZnD (es:List Fil) (h:Zss (es.map Prod.fst)) (i:Nat) (hi:i<es.length) (to_:Str):ZfA ((ZgU es i to_).map Prod.fst)= !Zek (Zdf es i) to_:=by
 rw [Bool.eq_iff_iff,ZiA,Zor es i to_ hi]
 have hd:Zss ((Zdf es i).map Prod.fst):=h.sublist ((Zh3 es i).map _)
 have hdm:(Zdf es i).map Prod.fst=(es.map Prod.fst).take i++(es.map Prod.fst).drop (i+1):=by unfold Zdf;rw [List.map_append,List.map_take,List.map_drop]
 have hc:(!Zek (Zdf es i) to_)=true↔∀b∈(es.map Prod.fst).take i++(es.map Prod.fst).drop (i+1),hit to_ b=false:=by
  rw [Bool.not_eq_true',←hdm]
  unfold Zek
  rw [List.any_eq_false]
  constructor
  ·intro q b hb
   obtain ⟨e,he,rfl⟩:=List.mem_map.1 hb
   have:=q e he
   simpa using this
  ·intro q e he
   have:=q e.1 (List.mem_map.2 ⟨e,he,rfl⟩)
   simp [this]
 rw [hc]
 rw [hdm] at hd
 generalize (es.map Prod.fst).take i=A at hd ⊢
 generalize (es.map Prod.fst).drop (i+1)=B at hd ⊢
 unfold Zss at hd ⊢
 rw [List.pairwise_append] at hd ⊢
 rw [List.pairwise_cons]
 constructor
 ·rintro ⟨_,⟨q1,_⟩,q2⟩ b hb
  rcases List.mem_append.1 hb with hb | hb
  ·exact q2 b hb to_ (List.mem_cons_self ..)
  ·rw [ZpX];exact q1 b hb
 ·intro q
  refine ⟨hd.1,⟨fun b hb=>by rw [ZpX];exact q b (List.mem_append.2 (.inr hb)),hd.2.1⟩,fun a ha b hb=>?_⟩
  rcases List.mem_cons.1 hb with rfl | hb
  ·exact q a (List.mem_append.2 (.inl ha))
  ·exact hd.2.2 a ha b hb
theorem ZlG {es:List Fil} (h:ZdD es=true) {i:Nat} (hi:i<es.length) {to_:Str} (hn:ZcG to_=true) (hc:Zek (Zdf es i) to_=false):ZdD (ZgU es i to_)=true:=by
 obtain ⟨g1,g2,g3⟩:=(Zc2 es).1 h
 rw [Zc2]
 refine ⟨fun x hx=>?_,by unfold ZgU;rw [List.length_set];exact g2,?_⟩
 ·unfold ZgU at hx
  rcases List.mem_or_eq_of_mem_set hx with hx | rfl
  ·exact g1 x hx
  ·have:=g1 es[i] (List.getElem_mem hi)
   rw [Zal hi]
   obtain ⟨q1,q2,q3⟩:=ZbW this
   unfold Zcb
   dsimp only
   rw [hn,q2,decide_eq_true q3];rfl
 ·exact (ZiA _).1 (by rw [ZnD es g3 i hi,hc];rfl)
theorem Zn6 (s n to_:Str) (hs:s.length≤1048576) (ht:to_.length≤1048576):Zea s n to_=some (ZfD s n to_):=by
 unfold Zea ZbN ZfD
 rw [Zeg s hs]
 simp only [Zaa]
 cases hz:Za3 s with
 | none=>rfl
 | some es=>
  have hok:=Zbv hz
  have h6:=(ZaK hok).2
  simp only [Zpk,Bool.not_true,cond_false]
  unfold Zd3
  rw [Ztb es n (by omega)]
  simp only [Zaa]
  rw [ZjL to_ ht]
  simp only [Zaa]
  cases hf:ZcG to_ with
  | false=>rfl
  | true=>
   simp only [Bool.not_true,cond_false]
   rw [if_neg (by simp)]
   cases ha:atM es n with
   | none=>rfl
   | some i=>
    obtain ⟨hi,hn⟩:=ZeO ha
    rw [show atZ (some i)=(i:Int) from rfl]
    rw [decide_eq_false (by omega),cond_false,Zab _ (by simp;omega),Int.toNat_natCast]
    show Zf1 (((((Zbj (ZgU es i to_)).bind _)).bind _)) _ _=_
    have hl:(ZgU es i to_).length=es.length:=by unfold ZgU;rw [List.length_set]
    rw [Ziq _ (by omega)]
    simp only [Zaa]
    rw [Zqg _ (by rw [List.length_map];omega) (fun b hb=>by
     rw [Zor es i to_ hi] at hb
     rcases List.mem_append.1 hb with hb | hb
     ·obtain ⟨x,hx,rfl⟩:=List.mem_map.1 (List.mem_of_mem_take hb)
      exact Zfb hok x hx
     ·rcases List.mem_cons.1 hb with rfl | hb
      ·exact ht
      ·obtain ⟨x,hx,rfl⟩:=List.mem_map.1 (List.mem_of_mem_drop hb)
       exact Zfb hok x hx)]
    simp only [Zaa]
    have har:=ZnD es ((Zc2 es).1 hok).2.2 i hi to_
    unfold ZfA at har
    rw [har,Bool.not_not]
    cases hcl:Zek (Zdf es i) to_ with
    | true=>rfl
    | false=>
     have hzz:=ZlG hok hi hf hcl
     rw [cond_false,if_neg (by simp)]
     simp only [Zaa]
     rw [show ((0:Int) != 0)=false from rfl,cond_false]
     have:=ZgO (ZgU es i to_) (by omega) (Zfb hzz)
     rw [if_pos hzz] at this
     show Zf1 ((Za6 (ZgU es i to_)).bind _) _ _=_
     rw [this]
     simp only [Zaa,Zf0]
theorem ZnM (s n to_:Str) (hs:s.length≤1048576) (ht:to_.length≤1048576):Zb4 s n to_=some (ZfD s n to_):=by
 unfold Zb4 ZfD
 rw [Zd6 s hs]
 simp only [Zaa]
 cases hz:Za3 s with
 | none=>
  simp only [Zpk]
  rw [ZkD [] n (by simp)]
  rfl
 | some es=>
  have hok:=Zbv hz
  have h6:=(ZaK hok).2
  simp only [Zpk,Bool.not_true,cond_false]
  rw [ZkD es n (by omega)]
  simp only [Zaa]
  rw [Zjq to_ ht]
  simp only [Zaa]
  cases hf:ZcG to_ with
  | false=>rfl
  | true=>
   simp only [Bool.not_true,cond_false]
   rw [if_neg (by simp)]
   cases ha:atM es n with
   | none=>rfl
   | some i=>
    obtain ⟨hi,hn⟩:=ZeO ha
    rw [show atZ (some i)=(i:Int) from rfl]
    rw [decide_eq_false (by omega),cond_false,Zlo es (by omega) i hi]
    simp only [Zaa]
    have hle:=(Zh3 es i).length_le
    rw [ZoN _ to_ (by omega)]
    simp only [Zaa]
    cases hcl:Zek (Zdf es i) to_ with
    | true=>rfl
    | false=>
     have hzz:=ZlG hok hi hf hcl
     have hl:(ZgU es i to_).length=es.length:=by unfold ZgU;rw [List.length_set]
     rw [cond_false,if_neg (by simp),Zab _ (by simp;omega),Int.toNat_natCast]
     have:=Zis (ZgU es i to_) (by omega) (ZaK hzz).1
     show (ZcL (ZgU es i to_)).bind _=_
     rw [this]
     simp only [Zaa]
def ZdG:List Fil→List Fil→Int×List Fil
 | es,[]=>(0,es)
 | es,e::r=>if ZfT es e=0 then ZdG (es++[e]) r else (ZfT es e,[])
theorem Zl7 (more:List Fil) (hm:∀e∈more,e.1.length≤1048576) (hn:more.length≤1000):∀(j i:Nat) (es:List Fil),i+j=more.length→ZdD es=true→
  ZbI.l0 (j+1) ((more.length:Int),(i:Int),more,es)=some (if (ZdG es (more.drop i)).1=0 then .inl (more,(ZdG es (more.drop i)).2) else .inr ((ZdG es (more.drop i)).1,more,[]))
 | 0,i,es,h,hz=>by
  rw [ZbI.l0.succ];simp only [ZbI.l0.step]
  rw [ZaR (by omega),List.drop_eq_nil_of_le (by omega)];rfl
 | j+1,i,es,h,hz=>by
  have hi:i<more.length:=by omega
  rw [ZbI.l0.succ];simp only [ZbI.l0.step]
  rw [ZaQ hi,cond_true,Zab _ Zau,Int.toNat_natCast,Zd8 more i hi,ZnG es hz _ (hm _ (List.getElem_mem hi)),List.drop_eq_getElem_cons hi,ZdG]
  simp only [Zaa]
  by_cases hc:ZfT es more[i]=0
  ·rw [if_pos hc,if_pos hc,show (ZfT es more[i] != 0)=false by simp [hc],cond_false,Zaf (by omega) (by omega),show (i:Int)+1=((i+1:Nat):Int) by omega]
   exact Zl7 more hm hn j (i+1) _ (by omega) (Zem hz hc).1
  ·rw [if_neg hc,if_neg hc,show (ZfT es more[i] != 0)=true by simp [hc],cond_true,if_neg hc];rfl
theorem Zib:∀(more es:List Fil),ZdD es=true→(ZdG es more).1=0→ZdD (ZdG es more).2=true∧(ZdG es more).2=es++more
 | [],es,hz,h=>⟨hz,by simp [ZdG]⟩
 | e::r,es,hz,h=>by
  rw [ZdG] at h ⊢
  by_cases hc:ZfT es e=0
  ·rw [if_pos hc] at h ⊢
   obtain ⟨i1,i2⟩:=Zib r (es++[e]) (Zem hz hc).1 h
   exact ⟨i1,by rw [i2,List.append_assoc];rfl⟩
  ·rw [if_neg hc] at h;exact absurd h hc
def Zgi (a b:Str):Str×Int:=match Za3 b with
 | none=>([],1)
 | some more=>match Za3 a with
  | none=>([],1)
  | some es=>if (ZdG es more).1=0 then (Zd0 (ZdG es more).2,0) else (a,(ZdG es more).1)
theorem Zih (a b:Str) (ha:a.length≤1048576) (hb:b.length≤1048576):Zdi a b=some (Zgi a b):=by
 unfold Zdi Zgi
 rw [Zeg b hb]
 simp only [Zaa]
 cases hzb:Za3 b with
 | none=>rfl
 | some more=>
  have hokb:=Zbv hzb
  have h6b:=(ZaK hokb).2
  simp only [Zpk,Bool.not_true,cond_false]
  unfold ZbO
  rw [Zeg a ha]
  simp only [Zaa]
  cases hz:Za3 a with
  | none=>rfl
  | some es=>
   have hok:=Zbv hz
   have h6:=(ZaK hok).2
   simp only [Zpk,Bool.not_true,cond_false]
   have hl:=Zl7 more (Zfb hokb) (by omega) more.length 0 es (by omega) hok
   rw [show ((0:Nat):Int)=0 from rfl,List.drop_zero] at hl
   unfold ZbI
   rw [ZaG,hl]
   simp only [Zaa]
   by_cases hc:(ZdG es more).1=0
   ·obtain ⟨hzz,_⟩:=Zib more es hok hc
    rw [if_pos hc,if_pos hc]
    dsimp only
    simp only [Zaa]
    rw [show ((0:Int) != 0)=false from rfl,cond_false,ZgO _ (by have:=(ZaK hzz).2;omega) (Zfb hzz),if_pos hzz]
    simp only [Zaa]
   ·rw [if_neg hc,if_neg hc]
    dsimp only
    simp only [Zaa]
    rw [show ((ZdG es more).1 != 0)=true by simp [hc],cond_true]
    simp only [Zaa]
end Ev
end
section
namespace Ev
open Go
theorem ZlH:ZdD []=true:=rfl
theorem Ze9 {es:List Fil} (h:ZdD es=true):(Zd0 es).length≤1048576:=by have:=Zka es h;omega
theorem Zij {es:List Fil} (h:ZdD es=true):ZaA (Zd0 es)=some (true,es):=by
 rw [Zeg _ (Ze9 h),Zc3 es h];rfl
theorem ZlE {es:List Fil} (h:ZdD es=true):Za6 es=some (Zd0 es):=by
 have:=(ZaK h).2
 rw [ZgO es (by omega) (Zfb h),if_pos h]
theorem ZuB {es:List Fil} (h:ZdD es=true):ZdM (Zd0 es)=some (es.map Prod.fst):=by
 have:=(ZaK h).2
 unfold ZdM
 rw [Zij h]
 simp only [Zaa]
 rw [Ziq es (by omega)];rfl
theorem Ztw {e:Fil} (h:Ztj e):e.1.length≤1048576:=by have:=h.len;omega
theorem Zjl {es:List Fil} (h:ZdD es=true) (e:Fil) (he:e.1.length≤1048576):Zdk (Zd0 es) e.1 e.2.1 e.2.2.1 e.2.2.2.1 e.2.2.2.2.1 e.2.2.2.2.2.1 e.2.2.2.2.2.2.1 e.2.2.2.2.2.2.2=some (if ZfT es e=0 then (Zd0 (es++[e]),0) else (Zd0 es,ZfT es e)):=by
 rw [ZhJ _ (Ze9 h) e he]
 unfold Zha
 rw [Zc3 es h]
end Ev
end
section
namespace Ev
open Go
theorem ZjG (s:Str) (hs:s.length≤1000000) {b:List Int} {p:Int} (h:Zlz b p) (hp:p≤800000000):Ret (Zcv s b p) (Zji b p 4 fun t=>t.length≤s.length+4):=by
 unfold Zcv
 by_cases c:s=[]
 ·subst c
  exact .pure ⟨rfl,by dsimp only;omega,by dsimp only;omega,by simp⟩
 rw [beq_false_of_ne c,cond_false]
 have hl:0<s.length:=List.length_pos_iff.2 c
 refine .bind (Zeu _ h (by omega) (by omega) (by omega)) ?_
 rintro ⟨k,b1,p1⟩ ⟨rfl,g1,g2,g3⟩
 dsimp only at g1 g2 g3 ⊢
 refine .bind (Zeu 5 (h.up g1) (by omega) (by omega) (by omega)) ?_
 rintro ⟨x,b2,p2⟩ ⟨rfl,k1,k2,k3⟩
 dsimp only at k1 k2 k3 ⊢
 have h2:=(h.up g1).up k1
 refine .cond (fun _=>?_) fun _=>.cond (fun _=>?_) fun _=>.cond (fun _=>?_) fun _=>.pure ⟨rfl,by dsimp only;omega,by dsimp only;omega,by dsimp only;omega⟩
 ·rw [Zab _ (by simp;omega)]
  refine .bind (Zeu 256 h2 (by omega) (by omega) (by omega)) ?_
  rintro ⟨z,b3,p3⟩ ⟨rfl,l1,l2,l3⟩
  dsimp only at l1 l2 l3 ⊢
  rw [Zaf (by omega) (by omega),Zad (by simp [ZbF];omega),Zab _ (by simp;omega),Zad (by simp [ZbF];omega)]
  refine .pure ⟨rfl,by dsimp only;omega,by dsimp only;omega,?_⟩
  simp [ZbF];omega
 ·rw [Zab _ (by simp;omega)]
  refine .pure ⟨rfl,by dsimp only;omega,by dsimp only;omega,?_⟩
  dsimp only
  rw [List.length_take];omega
 ·refine .bind (Zjt _ h2 (by omega) (by decide) (by decide)) ?_
  rintro ⟨z,b3,p3⟩ ⟨rfl,l1,l2,l3⟩
  dsimp only at l1 l2 l3 ⊢
  have hz:z.length≤4:=by
   simp only [List.mem_cons,List.not_mem_nil,or_false] at l3
   rcases l3 with rfl | rfl | rfl<;>decide
  rw [Zad (by omega)]
  refine .pure ⟨rfl,by dsimp only;omega,by dsimp only;omega,?_⟩
  dsimp only
  rw [List.length_append];omega
end Ev
end
