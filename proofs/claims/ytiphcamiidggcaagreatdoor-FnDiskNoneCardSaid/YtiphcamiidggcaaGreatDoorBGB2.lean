/- Plain laws about what the functions compute. Conditions: as stated. -/
import Derived.Lib.Bytealg
import Derived.Test.YtiphcamiidggcaaGreatDoorBGB1
set_option linter.unusedVariables false
set_option linter.unusedSimpArgs false
section
namespace Ev
open Go
def leB (n:Nat):Nat→Str
 | 0=>[]
 | k+1=>UInt8.ofNat (n%256)::leB (n/256) k
def leV:Str→Nat
 | []=>0
 | c::r=>c.toNat+256*leV r
def leN (s:Str) (a k:Nat):Nat:=leV ((s.drop a).take k)
theorem ZaG (n k:Nat):(leB n k).length=k:=by
 induction k generalizing n with
 | zero=>rfl
 | succ k ih=>simp [leB,ih]
theorem ZwO:∀s:Str,leV s<256^s.length
 | []=>by simp [leV]
 | c::r=>by
  have:=ZwO r
  have hc:c.toNat<256:=UInt8.toNat_lt _
  simp only [leV,List.length_cons,Nat.pow_succ]
  omega
theorem ZqL (k:Nat):∀n,leV (leB n k)=n%256^k:=by
 induction k with
 | zero=>intro n;simp [leB,leV,Nat.mod_one]
 | succ k ih=>
  intro n
  simp only [leB,leV,ih]
  rw [UInt8.toNat_ofNat_of_lt' (by omega:n%256<256),Nat.pow_succ,Nat.mul_comm (256^k),Nat.mod_mul]
theorem Zun:∀s:Str,leB (leV s) s.length=s
 | []=>rfl
 | c::r=>by
  have hc:c.toNat<256:=UInt8.toNat_lt _
  simp only [List.length_cons,leB,leV]
  rw [show (c.toNat+256*leV r)/256=leV r by omega,show (c.toNat+256*leV r)%256=c.toNat by omega,Zun r]
  simp
theorem ZfS (s:Str) (a k:Nat):leN s a k<256^k:=by
 have h:=ZwO ((s.drop a).take k)
 have:256^((s.drop a).take k).length≤256^k:=Nat.pow_le_pow_right (by omega) (by rw [List.length_take];omega)
 unfold leN;omega
theorem ZoW (K:Nat) (hK:K≤1000):∀(j i:Nat) (n:Nat) (out:List Int),i+j=K→n<9223372036854775808→out.length=i→
  Zbp.l0 (j+1) ((n:Int),(K:Int),(i:Int),out)=some (out++(leB n j).map fun c=>(c.toNat:Int))
 | 0,i,n,out,h,hn,ho=>by
  rw [Zbp.l0.succ];simp only [Zbp.l0.step]
  rw [Za0 (by omega)];simp [leB]
 | j+1,i,n,out,h,hn,ho=>by
  rw [Zbp.l0.succ];simp only [Zbp.l0.step]
  rw [ZaZ (by omega),cond_true,Zad (by simp;omega),Zaz (by omega),Zaw (by omega),show (n:Int)%256=((n%256:Nat):Int) by omega,wrap_u8 _ (by omega),show (n:Int)/256=((n/256:Nat):Int) by omega,
   Zaf (by omega) (by omega),Zaf (by omega) (by omega),show (i:Int)+1=((i+1:Nat):Int) by omega,ZoW K hK j (i+1) (n/256) _ (by omega) (by omega) (by simp [ho])]
  simp only [leB,List.map_cons]
  rw [UInt8.toNat_ofNat_of_lt' (by omega:n%256<256)]
  simp
theorem ZgD (s:Str):ZbM (s.map fun c=>(c.toNat:Int))=s:=by
 unfold ZbM
 rw [List.map_map]
 have:∀c:UInt8,((fun n:Int=>UInt8.ofNat n.toNat) ∘ fun c:UInt8=>(c.toNat:Int)) c=c:=fun c=>by simp
 induction s with
 | nil=>rfl
 | cons c r ih=>rw [List.map_cons,this,ih]
theorem Zb8 (n k:Nat) (hn:n<9223372036854775808) (hk:k≤1000):Zbp (n:Int) (k:Int)=some (leB n k):=by
 have h:=ZoW k hk k 0 n [] (by omega) hn rfl
 rw [show ((0:Nat):Int)=0 from rfl,List.nil_append] at h
 unfold Zbp
 rw [Int.sub_zero,Int.toNat_natCast,h]
 simp only [Zaa]
 rw [ZgD]
theorem ZmJ (K:Nat) (hK:K≤1000):∀(j i:Nat) (n:Nat) (out:List Int),i+j=K→n<9223372036854775808→out.length=i→
  Zau.l0 (j+1) ((n:Int),(K:Int),(i:Int),out)=some (out++(leB n j).map fun c=>(c.toNat:Int))
 | 0,i,n,out,h,hn,ho=>by
  rw [Zau.l0.succ];simp only [Zau.l0.step]
  rw [Za0 (by omega)];simp [leB]
 | j+1,i,n,out,h,hn,ho=>by
  rw [Zau.l0.succ];simp only [Zau.l0.step]
  rw [ZaZ (by omega),cond_true,Zad (by simp;omega),Zaz (by omega),Zaw (by omega),show (n:Int)%256=((n%256:Nat):Int) by omega,wrap_u8 _ (by omega),show (n:Int)/256=((n/256:Nat):Int) by omega,
   Zaf (by omega) (by omega),Zaf (by omega) (by omega),show (i:Int)+1=((i+1:Nat):Int) by omega,ZmJ K hK j (i+1) (n/256) _ (by omega) (by omega) (by simp [ho])]
  simp only [leB,List.map_cons]
  rw [UInt8.toNat_ofNat_of_lt' (by omega:n%256<256)]
  simp
theorem Za7 (n k:Nat) (hn:n<9223372036854775808) (hk:k≤1000):Zau (n:Int) (k:Int)=some (leB n k):=by
 have h:=ZmJ k hk k 0 n [] (by omega) hn rfl
 rw [show ((0:Nat):Int)=0 from rfl,List.nil_append] at h
 unfold Zau
 rw [Int.sub_zero,Int.toNat_natCast,h]
 simp only [Zaa]
 rw [ZgD]
theorem ZrH (s:Str) (a m:Nat) (h:a<s.length):leN s a (m+1)=(s.getD a 0).toNat+256*leN s (a+1) m:=by
 unfold leN
 rw [List.drop_eq_getElem_cons h,List.take_succ_cons,leV,Zam h]
theorem ZkN (s:Str) (a:Nat) (K:Nat) (hK:K≤4) (hs:s.length≤1000000000) (h:a+K≤s.length):∀(j m:Nat),j+m=K→
  Za3.l0 (j+1) (s,(a:Int),((leN s (a+j) m:Nat):Int),(j:Int)-1)=some ((leN s a K:Nat):Int)
 | 0,m,hm=>by
  rw [Za3.l0.succ];simp only [Za3.l0.step]
  rw [decide_eq_false (by omega),show m=K by omega];rfl
 | j+1,m,hm=>by
  have hb:=ZfS s (a+(j+1)) m
  have hp:256^m≤256^4:=Nat.pow_le_pow_right (by omega) (by omega)
  have hc:(s.getD (a+j) 0).toNat<256:=UInt8.toNat_lt _
  have hst:=ZrH s (a+j) m (by omega)
  rw [Za3.l0.succ];simp only [Za3.l0.step]
  rw [show ((j+1:Nat):Int)-1=(j:Int) by omega,decide_eq_true (by omega),cond_true,Zaf (n:=(a:Int)+(j:Int)) (by omega) (by omega),show (a:Int)+(j:Int)=((a+j:Nat):Int) by omega,Zab _ (Zav (by omega)),Int.toNat_natCast,
   Zaf (n:=((s.getD (a+j) 0).toNat:Int)) (by omega) (by omega),Zaf (n:=256*((leN s (a+(j+1)) m:Nat):Int)) (by omega) (by omega),Zaf (by omega) (by omega),Zaf (by omega) (by omega)]
  have e:256*((leN s (a+(j+1)) m:Nat):Int)+((s.getD (a+j) 0).toNat:Int)=((leN s (a+j) (m+1):Nat):Int):=by
   rw [hst,Nat.add_assoc];omega
  rw [e]
  exact ZkN s a K hK hs h j (m+1) (by omega)
theorem Ze2 (s:Str) (a K:Nat) (hK:K≤4) (hK1:1≤K) (hs:s.length≤1000000000) (h:a+K≤s.length):Za3 s (a:Int) (K:Int)=some ((leN s a K:Nat):Int):=by
 have e:=ZkN s a K hK hs h K 0 (by omega)
 rw [show leN s (a+K) 0=0 by simp [leN,leV],show ((0:Nat):Int)=0 from rfl] at e
 unfold Za3
 rw [Zaf (by omega) (by omega),show ((K:Int)-1-0).toNat+2=K+1 by omega,e]
 rfl
theorem ZrM (s:Str) (a:Nat) (K:Nat) (hK:K≤4) (hs:s.length≤1000000000) (h:a+K≤s.length):∀(j m:Nat),j+m=K→
  ZbR.l0 (j+1) (s,(a:Int),((leN s (a+j) m:Nat):Int),(j:Int)-1)=some ((leN s a K:Nat):Int)
 | 0,m,hm=>by
  rw [ZbR.l0.succ];simp only [ZbR.l0.step]
  rw [decide_eq_false (by omega),show m=K by omega];rfl
 | j+1,m,hm=>by
  have hb:=ZfS s (a+(j+1)) m
  have hp:256^m≤256^4:=Nat.pow_le_pow_right (by omega) (by omega)
  have hc:(s.getD (a+j) 0).toNat<256:=UInt8.toNat_lt _
  have hst:=ZrH s (a+j) m (by omega)
  rw [ZbR.l0.succ];simp only [ZbR.l0.step]
  rw [show ((j+1:Nat):Int)-1=(j:Int) by omega,decide_eq_true (by omega),cond_true,Zaf (n:=(a:Int)+(j:Int)) (by omega) (by omega),show (a:Int)+(j:Int)=((a+j:Nat):Int) by omega,Zab _ (Zav (by omega)),Int.toNat_natCast,
   Zaf (n:=((s.getD (a+j) 0).toNat:Int)) (by omega) (by omega),Zaf (n:=256*((leN s (a+(j+1)) m:Nat):Int)) (by omega) (by omega),Zaf (by omega) (by omega),Zaf (by omega) (by omega)]
  have e:256*((leN s (a+(j+1)) m:Nat):Int)+((s.getD (a+j) 0).toNat:Int)=((leN s (a+j) (m+1):Nat):Int):=by
   rw [hst,Nat.add_assoc];omega
  rw [e]
  exact ZrM s a K hK hs h j (m+1) (by omega)
theorem ZnN (s:Str) (a K:Nat) (hK:K≤4) (hK1:1≤K) (hs:s.length≤1000000000) (ha:a≤2000000000):ZbR s (a:Int) (K:Int)=some (if a+K≤s.length then ((leN s a K:Nat):Int) else -1):=by
 unfold ZbR
 rw [decide_eq_false (by omega),cond_false,Zaf (by omega) (by omega)]
 simp only [Zaa]
 by_cases h:a+K≤s.length
 ·have e:=ZrM s a K hK hs h K 0 (by omega)
  rw [show leN s (a+K) 0=0 by simp [leN,leV],show ((0:Nat):Int)=0 from rfl] at e
  rw [if_pos h,decide_eq_false (by omega),cond_false,Zaf (by omega) (by omega),show ((K:Int)-1-0).toNat+2=K+1 by omega,e]
  rfl
 ·rw [if_neg h,decide_eq_true (by omega),cond_true]
end Ev
end
section
namespace Ev
open Go
theorem ZqO:ZfT=Zm8:=rfl
theorem Zu3 (y mo:Int):∃n,Zm8 y mo=some n∧n≤31:=by
 unfold Zm8
 cases (mo==4)<;>cases (mo==6)<;>cases (mo==9)<;>cases (mo==11)<;>simp only [cond_true,cond_false,Zaa]<;>first
  | exact ⟨30,rfl,by omega⟩
  | (cases (mo==2)<;>simp only [cond_true,cond_false,Zaa]<;>first
    | exact ⟨31,rfl,by omega⟩
    | (cases (y.tmod 4==0)<;>simp only [cond_true,cond_false,Zaa]<;>first
      | exact ⟨28,rfl,by omega⟩
      | (cases (y.tmod 100 != 0)<;>simp only [cond_true,cond_false,Zaa]<;>first
        | exact ⟨29,rfl,by omega⟩
        | (cases (y.tmod 400==0)<;>first
          | exact ⟨29,rfl,by omega⟩
          | exact ⟨28,rfl,by omega⟩))))
theorem Zwu (y mo:Int):∃n,Zm8 y mo=some n:=by
 obtain ⟨n,h,_⟩:=Zu3 y mo
 exact ⟨n,h⟩
def Zl3 (y mo:Int):Int:=(Zm8 y mo).getD 0
theorem Zu4 (y mo:Int):Zm8 y mo=some (Zl3 y mo):=by
 obtain ⟨n,h⟩:=Zwu y mo
 unfold Zl3;rw [h];rfl
def stM (y mo d h mi sec:Int):Bool:=decide (1980≤y∧y≤2107)&&(decide (1≤mo∧mo≤12)&&(decide (1≤d∧d≤Zl3 y mo)&&(decide (0≤h∧h≤23)&&(decide (0≤mi∧mi≤59)&&(decide (0≤sec∧sec≤58)&&(sec.tmod 2==0))))))
theorem ZiJ (y mo d h mi sec:Int):Zc2 y mo d h mi sec=some (stM y mo d h mi sec):=by
 unfold Zc2 stM
 simp only [Zdm,Zu4,Zaa]
 cases decide (1980≤y∧y≤2107)<;>cases decide (1≤mo∧mo≤12)<;>cases decide (1≤d∧d≤Zl3 y mo)<;>cases decide (0≤h∧h≤23)<;>cases decide (0≤mi∧mi≤59)<;>cases decide (0≤sec∧sec≤58)<;>rfl
theorem ZlR (y mo d h mi sec:Int):ZbH y mo d h mi sec=some (stM y mo d h mi sec):=by
 unfold ZbH stM
 rw [ZqO]
 simp only [Zj6,Zu4,Zaa]
 cases decide (1980≤y∧y≤2107)<;>cases decide (1≤mo∧mo≤12)<;>cases decide (1≤d∧d≤Zl3 y mo)<;>cases decide (0≤h∧h≤23)<;>cases decide (0≤mi∧mi≤59)<;>cases decide (0≤sec∧sec≤58)<;>rfl
theorem Zwv (y mo:Int):Zl3 y mo≤31:=by
 obtain ⟨n,h,hn⟩:=Zu3 y mo
 unfold Zl3;rw [h];exact hn
def stN (y mo d h mi sec:Nat):Nat:=sec/2+mi*32+h*2048+d*65536+mo*2097152+(y-1980)*33554432
theorem ZiK {y mo d h mi sec:Int} (hk:stM y mo d h mi sec=true):∃y' mo' d' h' mi' sec':Nat,y=y'∧mo=mo'∧d=d'∧h=h'∧mi=mi'∧sec=sec'∧1980≤y'∧y'≤2107∧1≤mo'∧mo'≤12∧1≤d'∧d'≤31∧h'≤23∧mi'≤59∧sec'≤58∧sec'%2=0:=by
 simp only [stM,Bool.and_eq_true,decide_eq_true_eq,beq_iff_eq] at hk
 obtain ⟨⟨a1,a2⟩,⟨b1,b2⟩,⟨c1,c2⟩,⟨d1,d2⟩,⟨e1,e2⟩,⟨f1,f2⟩,g⟩:=hk
 have:=Zwv y mo
 rw [Zaz f1] at g
 exact ⟨y.toNat,mo.toNat,d.toNat,h.toNat,mi.toNat,sec.toNat,by omega,by omega,by omega,by omega,by omega,by omega,by omega,by omega,by omega,by omega,by omega,by omega,by omega,by omega,by omega,by omega⟩
theorem Zkr {y mo d h mi sec:Nat} (hk:stM y mo d h mi sec=true):Zb1 y mo d h mi sec=some ((stN y mo d h mi sec:Nat):Int):=by
 obtain ⟨y',mo',d',h',mi',sec',e1,e2,e3,e4,e5,e6,b⟩:=ZiK hk
 obtain rfl:y=y':=by omega
 obtain rfl:mo=mo':=by omega
 obtain rfl:d=d':=by omega
 obtain rfl:h=h':=by omega
 obtain rfl:mi=mi':=by omega
 obtain rfl:sec=sec':=by omega
 obtain ⟨b1,b2,b3,b4,b5,b6,b7,b8,b9,b10⟩:=b
 unfold Zb1
 rw [ZiJ,hk]
 simp only [Zaa,Bool.not_true,cond_false]
 have s1:=Zel mi 5 (by omega) (by omega)
 have s2:=Zel h 11 (by omega) (by omega)
 have s3:=Zel d 16 (by omega) (by omega)
 have s4:=Zel mo 21 (by omega) (by omega)
 have s5:=Zel (y-1980) 25 (by omega) (by omega)
 rw [show ((5:Nat):Int)=5 from rfl] at s1
 rw [show ((11:Nat):Int)=11 from rfl] at s2
 rw [show ((16:Nat):Int)=16 from rfl] at s3
 rw [show ((21:Nat):Int)=21 from rfl] at s4
 rw [show ((25:Nat):Int)=25 from rfl] at s5
 rw [Zaw (by omega),show (sec:Int)/2=((sec/2:Nat):Int) by omega,Zaf (by omega) (by omega),Zaf (by omega) (by omega),show (y:Int)-1980=((y-1980:Nat):Int) by omega,s1,s2,s3,s4,s5]
 rw [Zi6 _ _ (by omega) (by omega),ZkL (sec/2) mi 5 (by omega)]
 rw [Zi6 _ _ (by omega) (by omega),ZkL _ h 11 (by omega)]
 rw [Zi6 _ _ (by omega) (by omega),ZkL _ d 16 (by omega)]
 rw [Zi6 _ _ (by omega) (by omega),ZkL _ mo 21 (by omega)]
 rw [Zi6 _ _ (by omega) (by omega),ZkL _ (y-1980) 25 (by omega)]
 rfl
theorem Zov {y mo d h mi sec:Int} (hk:stM y mo d h mi sec=false):Zb1 y mo d h mi sec=some (-1):=by
 unfold Zb1
 rw [ZiJ,hk];rfl
theorem Zv7 {y mo d h mi sec:Nat} (hk:stM y mo d h mi sec=true):Zh9 y mo d h mi sec=some ((stN y mo d h mi sec:Nat):Int):=by
 obtain ⟨y',mo',d',h',mi',sec',e1,e2,e3,e4,e5,e6,b⟩:=ZiK hk
 obtain rfl:y=y':=by omega
 obtain rfl:mo=mo':=by omega
 obtain rfl:d=d':=by omega
 obtain rfl:h=h':=by omega
 obtain rfl:mi=mi':=by omega
 obtain rfl:sec=sec':=by omega
 obtain ⟨b1,b2,b3,b4,b5,b6,b7,b8,b9,b10⟩:=b
 unfold Zh9
 rw [Zaw (by omega)]
 rw [Zaf (n:=(y:Int)-1980) (by omega) (by omega)]
 rw [Zaf (n:=((y:Int)-1980)*16) (by omega) (by omega)]
 rw [Zaf (n:=((y:Int)-1980)*16+mo) (by omega) (by omega)]
 rw [Zaf (n:=(((y:Int)-1980)*16+mo)*32) (by omega) (by omega)]
 rw [Zaf (n:=(((y:Int)-1980)*16+mo)*32+d) (by omega) (by omega)]
 rw [Zaf (n:=((((y:Int)-1980)*16+mo)*32+d)*32) (by omega) (by omega)]
 rw [Zaf (n:=((((y:Int)-1980)*16+mo)*32+d)*32+h) (by omega) (by omega)]
 rw [Zaf (n:=(((((y:Int)-1980)*16+mo)*32+d)*32+h)*64) (by omega) (by omega)]
 rw [Zaf (n:=(((((y:Int)-1980)*16+mo)*32+d)*32+h)*64+mi) (by omega) (by omega)]
 rw [Zaf (n:=((((((y:Int)-1980)*16+mo)*32+d)*32+h)*64+mi)*32) (by omega) (by omega)]
 rw [Zaf (n:=(sec:Int)/2) (by omega) (by omega)]
 rw [Zaf (by omega) (by omega)]
 unfold stN
 congr 1
 omega
structure Stm where
 y:Nat
 mo:Nat
 d:Nat
 h:Nat
 mi:Nat
 sec:Nat
def stG (n:Nat):Stm:=⟨n/33554432+1980,n/2097152%16,n/65536%32,n/2048%32,n/32%64,2*(n%32)⟩
theorem Zv8 (n:Nat) (hn:n<4294967296):Zia (n:Int)=some (((stG n).y:Int),((stG n).mo:Int),((stG n).d:Int),((stG n).h:Int),((stG n).mi:Int),((stG n).sec:Int)):=by
 unfold Zia stG
 rw [Zaw (a:=(n:Int)) (by omega),Zaf (n:=(n:Int)/32) (by omega) (by omega)]
 rw [Zaw (a:=(n:Int)/32) (by omega),Zaf (n:=(n:Int)/32/64) (by omega) (by omega)]
 rw [Zaw (a:=(n:Int)/32/64) (by omega),Zaf (n:=(n:Int)/32/64/32) (by omega) (by omega)]
 rw [Zaw (a:=(n:Int)/32/64/32) (by omega),Zaf (n:=(n:Int)/32/64/32/32) (by omega) (by omega)]
 rw [Zaw (a:=(n:Int)/32/64/32/32) (by omega),Zaf (n:=(n:Int)/32/64/32/32/16) (by omega) (by omega)]
 rw [Zaf (n:=(n:Int)/32/64/32/32/16+1980) (by omega) (by omega),Zaz (by omega),Zaz (by omega),Zaz (by omega),Zaz (by omega),Zaz (by omega),Zaf (by omega) (by omega)]
 dsimp only
 congr 1
 refine Prod.ext ?_ (Prod.ext ?_ (Prod.ext ?_ (Prod.ext ?_ (Prod.ext ?_ ?_))))<;>dsimp only<;>omega
theorem ZtF (n:Nat) (hn:n<4294967296):stN (stG n).y (stG n).mo (stG n).d (stG n).h (stG n).mi (stG n).sec=n:=by
 unfold stN stG
 dsimp only
 omega
set_option maxRecDepth 100000 in
theorem Znv {y mo d h mi sec:Nat} (hk:stM y mo d h mi sec=true):stG (stN y mo d h mi sec)=⟨y,mo,d,h,mi,sec⟩∧stN y mo d h mi sec<4294967296:=by
 obtain ⟨y',mo',d',h',mi',sec',e1,e2,e3,e4,e5,e6,b⟩:=ZiK hk
 obtain rfl:y=y':=by omega
 obtain rfl:mo=mo':=by omega
 obtain rfl:d=d':=by omega
 obtain rfl:h=h':=by omega
 obtain rfl:mi=mi':=by omega
 obtain rfl:sec=sec':=by omega
 obtain ⟨b1,b2,b3,b4,b5,b6,b7,b8,b9,b10⟩:=b
 unfold stG stN
 constructor
 ·congr 1<;>omega
 ·omega
theorem ZfW (x k:Nat) (hk:k≤32) (hx:x<9223372036854775808):ZjK .i64 (x:Int) ((2^k-1:Nat):Int)=((x%2^k:Nat):Int):=by
 have hp:2^k≤2^32:=Nat.pow_le_pow_right (by omega) hk
 rw [Zr1 _ _ hx (by omega),Nat.and_two_pow_sub_one_eq_mod]
theorem Zqt (n:Nat) (hn:n<4294967296):Zc7 (n:Int)=some (if stM (stG n).y (stG n).mo (stG n).d (stG n).h (stG n).mi (stG n).sec then
  (((stG n).y:Int),((stG n).mo:Int),((stG n).d:Int),((stG n).h:Int),((stG n).mi:Int),((stG n).sec:Int),true) else (0,0,0,0,0,0,false)):=by
 have m1:=ZfW (n/2^25) 7 (by omega) (by omega)
 have m2:=ZfW (n/2^21) 4 (by omega) (by omega)
 have m3:=ZfW (n/2^16) 5 (by omega) (by omega)
 have m4:=ZfW (n/2^11) 5 (by omega) (by omega)
 have m5:=ZfW (n/2^5) 6 (by omega) (by omega)
 have m6:=ZfW n 5 (by omega) (by omega)
 have r1:=ZeR n 25 (by omega)
 have r2:=ZeR n 21 (by omega)
 have r3:=ZeR n 16 (by omega)
 have r4:=ZeR n 11 (by omega)
 have r5:=ZeR n 5 (by omega)
 rw [show ((25:Nat):Int)=25 from rfl] at r1
 rw [show ((21:Nat):Int)=21 from rfl] at r2
 rw [show ((16:Nat):Int)=16 from rfl] at r3
 rw [show ((11:Nat):Int)=11 from rfl] at r4
 rw [show ((5:Nat):Int)=5 from rfl] at r5
 rw [show ((2^7-1:Nat):Int)=127 from rfl] at m1
 rw [show ((2^4-1:Nat):Int)=15 from rfl] at m2
 rw [show ((2^5-1:Nat):Int)=31 from rfl] at m3 m4 m6
 rw [show ((2^6-1:Nat):Int)=63 from rfl] at m5
 have f1:w64 (1980+((n/2^25%2^7:Nat):Int))=((stG n).y:Int):=by
  rw [Zaf (by omega) (by omega)];unfold stG;dsimp only;omega
 have f2:((n/2^21%2^4:Nat):Int)=((stG n).mo:Int):=rfl
 have f3:((n/2^16%2^5:Nat):Int)=((stG n).d:Int):=rfl
 have f4:((n/2^11%2^5:Nat):Int)=((stG n).h:Int):=rfl
 have f5:((n/2^5%2^6:Nat):Int)=((stG n).mi:Int):=rfl
 have f6:w64 (((n%2^5:Nat):Int)*2)=((stG n).sec:Int):=by
  rw [Zaf (by omega) (by omega)];unfold stG;dsimp only;omega
 unfold Zc7
 rw [decide_eq_false (by omega),cond_false,r1,r2,r3,r4,r5,m1,m2,m3,m4,m5,m6,f1,f2,f3,f4,f5,f6]
 cases hk:stM (stG n).y (stG n).mo (stG n).d (stG n).h (stG n).mi (stG n).sec with
 | true=>
  rw [Zkr hk,ZtF n hn]
  simp only [Zaa]
  rw [show ((n:Int) != (n:Int))=false by simp,cond_false]
  rfl
 | false=>
  rw [Zov hk]
  simp only [Zaa]
  rw [show ((-1:Int) != (n:Int))=true by simp only [bne_iff_ne,ne_eq];omega,cond_true]
  rfl
end Ev
end
section
namespace Ev
open Go
def Zbt (b:UInt8):Str→List Str
 | []=>[[]]
 | c::s=>if c=b then []::Zbt b s else match Zbt b s with
  | p::r=>(c::p)::r
  | []=>[[c]]
theorem Zem (b:UInt8):∀s,Zbt b s≠[]
 | []=>by simp [Zbt]
 | c::s=>by
  simp only [Zbt]
  split
  ·simp
  ·split<;>simp
def Zwj (p:Str):List Str→List Str
 | []=>[p]
 | q::r=>(p++q)::r
theorem Zti (b:UInt8) (c:UInt8) (p s:Str) (h:c≠b):Zwj p (Zbt b (c::s))=Zwj (p++[c]) (Zbt b s):=by
 simp only [Zbt,if_neg h]
 cases hc:Zbt b s with
 | nil=>exact absurd hc (Zem b s)
 | cons q r=>simp [Zwj]
theorem Zu5 (b:UInt8) (p s:Str):Zwj p (Zbt b (b::s))=p::Zbt b s:=by
 simp [Zbt,Zwj]
theorem Zr3 (l:List Str) (h:l≠[]):Zwj [] l=l:=by cases l<;>simp_all [Zwj]
theorem Zip (b:UInt8):∀s,(Zbt b s).length≤s.length+1
 | []=>by simp [Zbt]
 | c::s=>by
  have:=Zip b s
  simp only [Zbt]
  split
  ·simp;omega
  ·cases hc:Zbt b s with
   | nil=>simp
   | cons q r=>rw [hc] at this;simp at this ⊢;omega
theorem Zvb (x:UInt8) (c:Nat) (hc:c<256):(((x.toNat:Int))==(c:Int))=(x==UInt8.ofNat c):=by
 by_cases h:x=UInt8.ofNat c
 ·subst h
  simp [UInt8.toNat_ofNat,Nat.mod_eq_of_lt hc]
 ·have h2:¬(x.toNat:Int)=(c:Int):=by
   intro e
   apply h
   have:x.toNat=c:=by omega
   rw [←this];simp
  rw [beq_eq_false_iff_ne.2 h,beq_eq_false_iff_ne.2 h2]
theorem Zwd (s:Str) (hs:s.length≤1099511627000):∀k i f (out:List Str),i+k=s.length→f≤i→out.length≤i→
  ∃f' out',Zeh.l0 (k+1) (s,47,((s.length:Int)+1),(f:Int),(i:Int),out)=some (s,((f':Nat):Int),out')∧f'≤s.length∧out'.length≤s.length∧
   out'++[s.drop f']=out++Zwj ((s.take i).drop f) (Zbt 47 (s.drop i)):=by
 intro k
 induction k with
 | zero=>
  intro i f out hi hf ho
  rw [Zeh.l0.succ]
  simp only [Zeh.l0.step]
  rw [Za0 (by omega)]
  refine ⟨f,out,rfl,by omega,by omega,?_⟩
  have:i=s.length:=by omega
  subst this
  simp [Zbt,Zwj]
 | succ k ih=>
  intro i f out hi hf ho
  have hil:i<s.length:=by omega
  have hg:s.getD i 0=s[i]:=by simp [List.getD,hil]
  have hd:s.drop i=s[i]::s.drop (i+1):=List.drop_eq_getElem_cons hil
  rw [Zeh.l0.succ]
  simp only [Zeh.l0.step,Int.toNat_natCast]
  rw [Zab _ (Zav hil),ZaZ hil,cond_true,hg,show decide ((out.length:Int)<(s.length:Int)+1)=true from decide_eq_true (by omega)]
  simp only [Option.bind_some,cond_true]
  have hb:=Zvb s[i] 47 (by decide)
  rw [show ((47:Nat):Int)=47 from rfl] at hb
  rw [hb,hd]
  by_cases hc:s[i]=UInt8.ofNat 47
  ·rw [beq_iff_eq.2 hc,cond_true,Zab _ (Zif (by omega)),Zab _ (Zif hf),Zab _ (Zfa (by simp;omega)),Zdc (by omega)]
   obtain ⟨f',out',h1,h2,h3,h4⟩:=ih (i+1) (i+1) (out++[(s.take i).drop f]) (by omega) (by omega) (by simp;omega)
   refine ⟨f',out',h1,h2,h3,?_⟩
   rw [h4,hc]
   have e:(s.take (i+1)).drop (i+1)=[]:=List.drop_eq_nil_of_le (by simp;omega)
   rw [e,Zr3 _ (Zem _ _)]
   have:=Zu5 47 ((s.take i).drop f) (s.drop (i+1))
   rw [show (UInt8.ofNat 47)=47 from rfl,this]
   simp
  ·rw [beq_eq_false_iff_ne.2 hc,cond_false,Zdc (by omega)]
   obtain ⟨f',out',h1,h2,h3,h4⟩:=ih (i+1) f out (by omega) (by omega) (by omega)
   refine ⟨f',out',h1,h2,h3,?_⟩
   rw [h4,Zti 47 s[i] _ _ hc]
   have e:(s.take (i+1)).drop f=(s.take i).drop f++[s[i]]:=by
    rw [List.take_succ_eq_append_getElem hil,List.drop_append_of_le_length (by simp;omega)]
   rw [e]
theorem Zwe (s:Str) (hs:s.length≤1099511627000):Zeh s 47 ((s.length:Int)+1)=some (Zbt 47 s):=by
 obtain ⟨f',out',h1,h2,h3,h4⟩:=Zwd s hs s.length 0 0 [] (by omega) (by omega) (by simp)
 rw [show ((0:Nat):Int)=0 from rfl] at h1
 unfold Zeh
 rw [ZaJ,h1]
 simp only [Option.bind_some,Int.toNat_natCast]
 rw [Zab _ (Zif h2),Zab _ (Zfa (by simp;omega)),h4]
 simp only [List.take_zero,List.drop_zero,List.nil_append,List.drop_nil]
 rw [Zr3 _ (Zem _ _)]
end Ev
end
section
namespace Ev
open Go
def okN (n:Int):Bool:=decide ((97≤n∧n≤122)∨(48≤n∧n≤57)∨n=46∨n=45∨n=95)
def okC (c:UInt8):Bool:=okN c.toNat
theorem ZgX {α:Type} (p:Prop) [Decidable p] (x y:α):(bif decide p then x else y)=if p then x else y:=by
 by_cases h:p<;>simp [h]
theorem Zwx {α:Type} (a b:Int) (x y:α):(bif a != b then x else y)=if a=b then y else x:=by
 by_cases h:a=b
 ·subst h;simp
 ·rw [show (a != b)=true from bne_iff_ne.2 h,if_neg h];rfl
theorem Zwy {α:Type} (a b:Int) (x y:α):(bif a==b then x else y)=if a=b then x else y:=by
 by_cases h:a=b
 ·subst h;simp
 ·rw [show (a==b)=false from beq_eq_false_iff_ne.2 h,if_neg h];rfl
def part (p:Str):Bool:=p.all okC&&(decide (1≤p.length)&&decide (p.length≤10)&&(!(p==[46])&&!(p==[46,46])))
theorem Zon (n:Int):Zbn n 1 10=some (decide (1≤n)&&decide (n≤10)):=by
 unfold Zbn
 simp only [ZgX,ge_iff_le]
 by_cases h:(1:Int)≤n<;>simp [h]
theorem Zxn (n:Int):ZgA n 1 10=some (decide (1≤n)&&decide (n≤10)):=Zon n
theorem ZtR (s:Str) (hs:s.length≤1099511627000):∀k i,i+k=s.length→ZcH.l0 (k+1) (s,(s.length:Int),(i:Int))=some (if (s.drop i).all okC then .inl s else .inr false):=by
 intro k
 induction k with
 | zero=>
  intro i hi
  rw [ZcH.l0.succ]
  simp only [ZcH.l0.step]
  rw [Za0 (by omega),List.drop_eq_nil_of_le (by omega)]
  rfl
 | succ k ih=>
  intro i hi
  have hil:i<s.length:=by omega
  have hg:s.getD i 0=s[i]:=by simp [List.getD,hil]
  have hd:s.drop i=s[i]::s.drop (i+1):=List.drop_eq_getElem_cons hil
  rw [ZcH.l0.succ]
  simp only [ZcH.l0.step,Int.toNat_natCast]
  rw [Zab _ (Zav hil),ZaZ hil,cond_true,Zdc (by omega),ih (i+1) (by omega),hd,List.all_cons]
  have hc:okC s[i]=okN (s[i].toNat:Int):=rfl
  rw [hc]
  simp only [hg,ZgX,Zwx]
  generalize ((s[i].toNat:Nat):Int)=n
  have key:(if n<97 then if n<48 then if n=46 then some false else if n=45 then some false else some (n != 95) else if n>57 then if n=46 then some false else if n=45 then some false else some (n != 95) else some false
    else if n>122 then if n<48 then if n=46 then some false else if n=45 then some false else some (n != 95) else if n>57 then if n=46 then some false else if n=45 then some false else some (n != 95) else some false else some false)=some (!okN n):=by
   unfold okN
   repeat' split
   all_goals
    congr 1
    rw [Bool.eq_iff_iff]
    simp
    try omega
  rw [key]
  simp only [Option.bind_some]
  cases okN n<;>rfl
theorem ZtS (s:Str) (hs:s.length≤1099511627000):ZcH s=some (part s):=by
 unfold ZcH
 have h:=ZtR s hs s.length 0 (by omega)
 rw [show ((0:Nat):Int)=0 from rfl] at h
 rw [ZaJ,h]
 simp only [List.drop_zero,Option.bind_some]
 unfold part
 cases h1:s.all okC with
 | false=>rfl
 | true=>
  simp only [if_true,Zon,Option.bind_some,Bool.true_and]
  have e1:decide ((1:Int)≤(s.length:Int))=decide (1≤s.length):=by rw [Bool.eq_iff_iff];simp;omega
  have e2:decide ((s.length:Int)≤10)=decide (s.length≤10):=by rw [Bool.eq_iff_iff];simp;omega
  rw [e1,e2]
  cases decide (1≤s.length)<;>cases decide (s.length≤10)<;>cases (s==[46])<;>rfl
end Ev
end
section
namespace Ev
open Go
theorem Znz (w:Str) (i1:Int) (list:List Str) (hs:w.length≤1099511627000):∀k i,i+k=w.length→Zar.l0 (k+1) (i1,w,(i:Int),list)=some (if (w.drop i).all okC then .inl (i1,w,list) else .inr (.inr false)):=by
 intro k
 induction k with
 | zero=>
  intro i hi
  rw [Zar.l0.succ]
  simp only [Zar.l0.step]
  rw [Za0 (by omega),List.drop_eq_nil_of_le (by omega)]
  rfl
 | succ k ih=>
  intro i hi
  have hil:i<w.length:=by omega
  have hg:w.getD i 0=w[i]:=by simp [List.getD,hil]
  have hd:w.drop i=w[i]::w.drop (i+1):=List.drop_eq_getElem_cons hil
  have hn:∀{β:Type} (x:Option β),need (decide ((0:Int)≤(i:Int))&&decide ((i:Int)<(w.length:Int))) x=x:=fun x=>Zab _ (Zav hil)
  rw [Zar.l0.succ]
  simp only [Zar.l0.step,Int.toNat_natCast]
  simp only [hn]
  rw [ZaZ hil,cond_true,Zdc (by omega),ih (i+1) (by omega),hd,List.all_cons]
  have hc:okC w[i]=okN (w[i].toNat:Int):=rfl
  rw [hc]
  simp only [hg,ZgX,Zwy,ge_iff_le]
  generalize ((w[i].toNat:Nat):Int)=n
  have key:∀{β:Type} (g:Bool→Option β),((if 97≤n then if n≤122 then some (!true) else if 48≤n then if n≤57 then some (!true) else if n=46 then some (!true) else if n=45 then some (!true) else some (!(n==95)) else if n=46 then some (!true) else if n=45 then some (!true) else some (!(n==95)) else if 48≤n then if n≤57 then some (!true) else if n=46 then some (!true) else if n=45 then some (!true) else some (!(n==95)) else if n=46 then some (!true) else if n=45 then some (!true) else some (!(n==95))).bind g)=g (!okN n):=by
   intro β g
   rw [show (if 97≤n then if n≤122 then some (!true) else if 48≤n then if n≤57 then some (!true) else if n=46 then some (!true) else if n=45 then some (!true) else some (!(n==95)) else if n=46 then some (!true) else if n=45 then some (!true) else some (!(n==95)) else if 48≤n then if n≤57 then some (!true) else if n=46 then some (!true) else if n=45 then some (!true) else some (!(n==95)) else if n=46 then some (!true) else if n=45 then some (!true) else some (!(n==95)))=some (!okN n) by
    unfold okN
    repeat' split
    all_goals
     congr 1
     rw [Bool.eq_iff_iff]
     simp
     try omega]
   rfl
  rw [key]
  cases okN n<;>rfl
theorem Zwt (n:Nat):decide ((1:Int)≤(n:Int))=decide (1≤n):=by rw [Bool.eq_iff_iff];simp;omega
theorem Zu1 (n:Nat):decide ((n:Int)≤10)=decide (n≤10):=by rw [Bool.eq_iff_iff];simp;omega
theorem Zsb (n:Nat):decide ((n:Int)≤4)=decide (n≤4):=by rw [Bool.eq_iff_iff];simp;omega
theorem Zny (l:List Str) (hl:l.length≤1099511627000) (hx:∀p,p∈l→p.length≤1099511627000):∀k i,i+k=l.length→Zar.l1 (k+1) ((i:Int),l)=some (if (l.drop i).all part then .inl l else .inr false):=by
 intro k
 induction k with
 | zero=>
  intro i hi
  rw [Zar.l1.succ]
  simp only [Zar.l1.step]
  rw [Za0 (by omega),List.drop_eq_nil_of_le (by omega)]
  rfl
 | succ k ih=>
  intro i hi
  have hil:i<l.length:=by omega
  have hg:l.getD i []=l[i]:=by simp [List.getD,hil]
  have hd:l.drop i=l[i]::l.drop (i+1):=List.drop_eq_getElem_cons hil
  have hm:=hx l[i] (List.getElem_mem hil)
  rw [Zar.l1.succ]
  simp only [Zar.l1.step,Int.toNat_natCast]
  rw [Zab _ (Zav hil),ZaZ hil,cond_true,hg,ZaJ]
  have h0:=Znz l[i] (i:Int) l hm l[i].length 0 (by omega)
  rw [show ((0:Nat):Int)=0 from rfl] at h0
  rw [h0,List.drop_zero,hd,List.all_cons]
  unfold part
  cases h1:l[i].all okC with
  | false=>rfl
  | true=>
   simp only [if_true,Option.bind_some,Zxn,Zwt,Zu1,Bool.true_and]
   have hn:=ih (i+1) (by omega)
   rw [Zdc (by omega),hn]
   unfold part
   cases decide (1≤l[i].length)<;>cases decide (l[i].length≤10)<;>cases (l[i]==[46])<;>cases (l[i]==[46,46])<;>rfl
theorem ZhM (b:UInt8):∀(s:Str) (p:Str),p∈Zbt b s→p.length≤s.length
 | [],p,h=>by simp [Zbt] at h;subst h;simp
 | c::s,p,h=>by
  have ih:=ZhM b s
  simp only [Zbt] at h
  split at h
  ·cases h with
   | head=>simp
   | tail _ h=>have:=ih p h;simp;omega
  ·cases hc:Zbt b s with
   | nil=>rw [hc] at h;simp at h;subst h;simp
   | cons q r=>
    rw [hc] at h
    cases h with
    | head=>have:=ih q (by rw [hc];simp);simp;omega
    | tail _ h=>have:=ih p (by rw [hc];exact List.mem_cons_of_mem _ h);simp;omega
def Zdh (s:Str):Bool:=(Zbt 47 s).all part&&decide ((Zbt 47 s).length≤4)
theorem ZnA (s:Str) (hs:s.length≤1048576):Zar s=some (Zdh s):=by
 unfold Zar
 rw [Zaf (by omega) (by omega),Zwe s (by omega)]
 simp only [Option.bind_some]
 have hl:=Zip 47 s
 have h:=Zny (Zbt 47 s) (by omega) (fun p hp=>by have:=ZhM 47 s p hp;omega) (Zbt 47 s).length 0 (by omega)
 rw [show ((0:Nat):Int)=0 from rfl] at h
 rw [ZaJ,h,List.drop_zero]
 unfold Zdh
 cases h1:(Zbt 47 s).all part with
 | false=>rfl
 | true=>simp only [if_true,Option.bind_some,Zsb,Bool.true_and]
end Ev
end
section
namespace Ev
open Go
theorem Zjb {α:Type} {p q:α→Bool}:∀{l:List α},(∀x,x∈l→p x=q x)→l.find? p=l.find? q
 | [],_=>rfl
 | x::l,h=>by
  rw [List.find?_cons,List.find?_cons,h x (by simp),Zjb fun y hy=>h y (by simp [hy])]
theorem Zht (p:UInt8→Bool):∀(s:Str) (k:Nat),((List.range' k s.length).find? fun i=>p (s.getD (i-k) 0))=(s.findIdx? p).map (· + k)
 | [],k=>by simp
 | c::s,k=>by
  have ih:=Zht p s (k+1)
  rw [List.length_cons,List.range'_succ,List.find?_cons,Nat.sub_self,List.findIdx?_cons]
  cases h:p c with
  | true=>simp [h]
  | false=>
   simp only [List.getD_cons_zero,h]
   have e:((List.range' (k+1) s.length).find? fun i=>p ((c::s).getD (i-k) 0))=((List.range' (k+1) s.length).find? fun i=>p (s.getD (i-(k+1)) 0)):=by
    apply Zjb
    intro i hi
    rw [List.mem_range'] at hi
    obtain ⟨j,hj,rfl⟩:=hi
    rw [show k+1+1*j-k=j+1 by omega,show k+1+1*j-(k+1)=j by omega,List.getD_cons_succ]
   rw [e,ih]
   cases s.findIdx? p<;>simp;omega
theorem Zxp (s:Str):idxB s 47=match s.findIdx? (· == 47) with | some i=>(i:Int) | none=>-1:=by
 unfold idxB firstIdx
 have h:=Zht (· == 47) s 0
 have e:((List.range (⟨s.toArray⟩:ByteArray).size).find? fun i=>(⟨s.toArray⟩:ByteArray)[i]! == (47:Int).toNat.toUInt8)=s.findIdx? (· == 47):=by
  rw [List.range_eq_range']
  have hsz:(⟨s.toArray⟩:ByteArray).size=s.length:=by simp [ByteArray.size]
  rw [hsz]
  rw [show (s.findIdx? (· == 47))=(s.findIdx? (· == 47)).map (· + 0) by simp,←h]
  apply Zjb
  intro i hi
  rw [List.mem_range'] at hi
  obtain ⟨j,hj,rfl⟩:=hi
  have hj':j<s.length:=hj
  rw [show 0+1*j=j by omega]
  have:(⟨s.toArray⟩:ByteArray)[j]! = s.getD j 0:=by
   have hj2:j<(⟨s.toArray⟩:ByteArray).size:=by rw [hsz];exact hj'
   rw [getElem!_pos (⟨s.toArray⟩:ByteArray) j hj2]
   show s.toArray[j]=s.getD j 0
   simp [List.getD,hj']
  rw [this];rfl
 rw [e]
 cases s.findIdx? (· == 47)<;>rfl
end Ev
end
section
namespace Ev
open Go
theorem Zji:∀{s:Str},s.findIdx? (· == 47)=none→Zbt 47 s=[s]
 | [],_=>rfl
 | c::s,h=>by
  rw [List.findIdx?_cons] at h
  cases hc:(c==(47:UInt8)) with
  | true=>rw [hc] at h;simp at h
  | false=>
   rw [hc] at h
   have ih:=Zji (s:=s) (by simpa using h)
   simp only [Zbt,if_neg (beq_eq_false_iff_ne.1 hc),ih]
theorem Zjh:∀{s:Str} {m:Nat},s.findIdx? (· == 47)=some m→m<s.length∧Zbt 47 s=s.take m::Zbt 47 (s.drop (m+1))
 | [],m,h=>by simp at h
 | c::s,m,h=>by
  rw [List.findIdx?_cons] at h
  cases hc:(c==(47:UInt8)) with
  | true=>
   rw [hc] at h
   simp at h;subst h
   have:=beq_iff_eq.1 hc
   subst this
   exact ⟨by simp,by simp [Zbt]⟩
  | false=>
   rw [hc] at h
   simp only [cond_false,Bool.false_eq_true,if_false,Option.map_eq_some_iff] at h
   obtain ⟨m',h',rfl⟩:=h
   obtain ⟨a,b⟩:=Zjh h'
   refine ⟨by simp;omega,?_⟩
   simp only [Zbt,if_neg (beq_eq_false_iff_ne.1 hc),b,List.take_succ_cons,List.drop_succ_cons]
theorem Zlz:∀(s:Str) (n:Int),s.foldl (fun (n:Int) x=>if x==47 then n+1 else n) n=n+((Zbt 47 s).length-1)
 | [],n=>by simp [Zbt]
 | c::s,n=>by
  rw [List.foldl_cons,Zlz s]
  have hne:=Zem 47 s
  have hpos:1≤(Zbt 47 s).length:=by cases h:Zbt 47 s with
   | nil=>exact absurd h hne
   | cons _ _=>simp
  by_cases hc:c=47
  ·subst hc
   simp [Zbt];omega
  ·rw [beq_eq_false_iff_ne.2 hc]
   simp only [Zbt,if_neg hc]
   cases h:Zbt 47 s with
   | nil=>exact absurd h hne
   | cons q r=>simp
theorem Zxu (s:Str):cntB s 47=(Zbt 47 s).length-1:=by
 unfold cntB
 rw [Go.Lib.foldl_data]
 have:=Zlz s 0
 rw [Int.zero_add] at this
 exact this
theorem ZuE (s:Str):Zfq s=some (match s.findIdx? (· == 47) with | some i=>(i:Int) | none=>-1):=by
 unfold Zfq Zei Zcf Zb0
 simp only [Option.bind_some,Zxp]
 by_cases h:([47]:Str)=s
 ·subst h;rfl
 ·rw [beq_eq_false_iff_ne.2 h];rfl
theorem ZpK:∀k i (s2:Str) (done:List Str),s2.length≤1048576→(Zbt 47 s2).length=k+1→done.length=i→i+k≤2000000→
  ∃s3,Za9.l0 (k+1) (s2,((i+k:Nat):Int),(i:Int),done++List.replicate (k+1) ([]:Str))=some (s3,((i+k:Nat):Int),done++((Zbt 47 s2).dropLast++[[]]))∧(Zbt 47 s2).getLast? = some s3:=by
 intro k
 induction k with
 | zero=>
  intro i s2 done hs hc hd hi
  rw [Za9.l0.succ]
  simp only [Za9.l0.step]
  rw [Za0 (by omega),cond_false]
  cases h:Zbt 47 s2 with
  | nil=>rw [h] at hc;simp at hc
  | cons q r=>
   rw [h] at hc
   have hr:r=[]:=List.eq_nil_of_length_eq_zero (by simpa using hc)
   subst hr
   have hq:q=s2:=by
    cases hf:s2.findIdx? (· == 47) with
    | none=>rw [Zji hf] at h;simpa using h.symm
    | some m=>
     rw [(Zjh hf).2] at h
     have:=Zem 47 (s2.drop (m+1))
     simp at h;exact absurd h.2 this
   subst hq
   exact ⟨q,by simp,by simp⟩
 | succ k ih=>
  intro i s2 done hs hc hd hi
  rw [Za9.l0.succ]
  simp only [Za9.l0.step,ZuE,Option.bind_some]
  rw [ZaZ (by omega),cond_true]
  cases hf:s2.findIdx? (· == 47) with
  | none=>rw [Zji hf] at hc;simp at hc
  | some m=>
   obtain ⟨hm,hcut⟩:=Zjh hf
   rw [hcut] at hc ⊢
   have hc':(Zbt 47 (s2.drop (m+1))).length=k+1:=by simpa using hc
   simp only []
   rw [show decide ((m:Int)<0)=false from decide_eq_false (by omega),cond_false,Int.add_zero,Zaf (n:=(m:Int)) (by omega) (by omega),Zab _ (Zif (by omega)),Int.toNat_natCast,
    Zdc (by omega),Zab _ (Zif (by omega)),Zab _ (Zav (by simp;omega)),Zdc (by omega),Int.toNat_natCast,Int.toNat_natCast]
   have e:(done++List.replicate (k+1+1) ([]:Str)).set i (s2.take m)=(done++[s2.take m])++List.replicate (k+1) ([]:Str):=by
    rw [List.set_append,if_neg (by omega),hd,Nat.sub_self,List.replicate_succ,List.set_cons_zero];simp
   rw [e]
   obtain ⟨s3,h1,h2⟩:=ih (i+1) (s2.drop (m+1)) (done++[s2.take m]) (by simp;omega) hc' (by simp [hd]) (by omega)
   refine ⟨s3,?_,?_⟩
   ·rw [show i+(k+1)=i+1+k by omega,h1]
    cases hq:Zbt 47 (s2.drop (m+1)) with
    | nil=>exact absurd hq (Zem _ _)
    | cons a b=>simp
   ·cases hq:Zbt 47 (s2.drop (m+1)) with
    | nil=>exact absurd hq (Zem _ _)
    | cons a b=>rw [hq] at h2;rw [List.getLast?_cons_cons];exact h2
theorem Zua {a b:Int} (h:a≤b):ZjH a b=a:=by unfold ZjH;rw [if_neg (by omega)]
theorem ZpL (s:Str) (hs:s.length≤1048576):Za9 s=some (Zbt 47 s):=by
 have hlen:=Zip 47 s
 have hpos:1≤(Zbt 47 s).length:=by cases h:Zbt 47 s with
  | nil=>exact absurd h (Zem 47 s)
  | cons _ _=>simp
 obtain ⟨k,hk⟩:∃k,(Zbt 47 s).length=k+1:=⟨(Zbt 47 s).length-1,by omega⟩
 unfold Za9 ZfZ Zdl
 simp only [Option.bind_some,Zxu,hk]
 rw [show (((k+1:Nat):Int)-1)=(k:Int) by omega,Zaf (n:=(k:Int)+1) (by omega) (by omega),Zaf (n:=(s.length:Int)+1) (by omega) (by omega),Zua (by omega),
  Zaf (n:=(k:Int)+1-1) (by omega) (by omega),show ((k:Int)+1).toNat=k+1 by omega,show ((k:Int)+1-1)=(k:Int) by omega,ZaJ]
 rw [Zab _ (by simp;exact ⟨by omega,Zfa (by omega)⟩)]
 obtain ⟨s3,h1,h2⟩:=ZpK k 0 s [] hs hk rfl (by omega)
 simp only [Nat.zero_add,List.nil_append] at h1
 rw [show ((0:Nat):Int)=0 from rfl] at h1
 rw [h1]
 simp only [Option.bind_some,Int.toNat_natCast]
 have hdl:(Zbt 47 s).dropLast.length=k:=by simp [hk]
 have hset:((Zbt 47 s).dropLast++[([]:Str)]).set k s3=Zbt 47 s:=by
  rw [List.set_append,if_neg (by omega),hdl,Nat.sub_self,List.set_cons_zero]
  obtain ⟨ys,hy⟩:=List.getLast?_eq_some_iff.1 h2
  rw [hy];simp
 have hn:w64 ((k:Int)+1)=((k+1:Nat):Int):=Zdc (by omega)
 rw [Zab _ (Zav (by simp;omega))]
 simp only [hset,hn,Int.toNat_natCast]
 rw [Zab _ (Zif (by omega)),List.drop_zero,List.take_of_length_le (by omega)]
theorem ZtH (s:Str) (hs:s.length≤1048576):Zfh s=some (Zbt 47 s):=by
 unfold Zfh
 rw [ZpL s hs];rfl
theorem ZnR (l:List Str) (hl:l.length≤1099511627000) (hx:∀p,p∈l→p.length≤1099511627000):∀k i,i+k=l.length→ZaW.l0 (k+1) (l,l,(l.length:Int),(i:Int))=some (if (l.drop i).all part then .inl l else .inr false):=by
 intro k
 induction k with
 | zero=>
  intro i hi
  rw [ZaW.l0.succ]
  simp only [ZaW.l0.step]
  rw [Za0 (by omega),List.drop_eq_nil_of_le (by omega)]
  rfl
 | succ k ih=>
  intro i hi
  have hil:i<l.length:=by omega
  have hg:l.getD i []=l[i]:=by simp [List.getD,hil]
  have hd:l.drop i=l[i]::l.drop (i+1):=List.drop_eq_getElem_cons hil
  have hm:=hx l[i] (List.getElem_mem hil)
  rw [ZaW.l0.succ]
  simp only [ZaW.l0.step,Int.toNat_natCast]
  rw [Zab _ (Zav hil),ZaZ hil,cond_true,hg,ZtS _ hm,hd,List.all_cons,Zdc (by omega)]
  simp only [Option.bind_some]
  cases part l[i] with
  | false=>rfl
  | true=>simp only [Bool.not_true,cond_false,Bool.true_and];exact ih (i+1) (by omega)
theorem ZnS (s:Str) (hs:s.length≤1048576):ZaW s=some (Zdh s):=by
 unfold ZaW
 rw [ZtH s hs]
 simp only [Option.bind_some]
 have hl:=Zip 47 s
 have h:=ZnR (Zbt 47 s) (by omega) (fun p hp=>by have:=ZhM 47 s p hp;omega) (Zbt 47 s).length 0 (by omega)
 rw [show ((0:Nat):Int)=0 from rfl] at h
 rw [ZaJ,h,List.drop_zero]
 unfold Zdh
 cases h1:(Zbt 47 s).all part with
 | false=>rfl
 | true=>simp only [if_true,Option.bind_some,Zsb,Bool.true_and]
end Ev
end
section
namespace Ev
open Go
theorem Zxl {n m k:Nat} (hn:n<256^k) (hm:m<256^k) (h:leB n k=leB m k):n=m:=by
 have:=congrArg leV h
 rwa [ZqL,ZqL,Nat.mod_eq_of_lt hn,Nat.mod_eq_of_lt hm] at this
theorem ZfE (s:Str) (a k:Nat) (h:a+k≤s.length):(s.drop a).take k=leB (leN s a k) k:=by
 have hl:((s.drop a).take k).length=k:=by rw [List.length_take,List.length_drop];omega
 have:=Zun ((s.drop a).take k)
 rw [hl] at this
 exact this.symm
theorem Zej (s:Str) (a k:Nat):s.take (a+k)=s.take a++(s.drop a).take k:=by
 rw [List.take_add]
def ZpD (how stamp crc packed long name:Nat):Str:=
 leB 67324752 4++leB 20 2++leB 0 2++leB how 2++leB stamp 4++leB crc 4++leB packed 4++leB long 4++leB name 2++leB 0 2
theorem take30 (s:Str) (h:30≤s.length):s.take 30=leB (leN s 0 4) 4++leB (leN s 4 2) 2++leB (leN s 6 2) 2++leB (leN s 8 2) 2++leB (leN s 10 4) 4++leB (leN s 14 4) 4++leB (leN s 18 4) 4++leB (leN s 22 4) 4++leB (leN s 26 2) 2++leB (leN s 28 2) 2:=by
 rw [←ZfE s 0 4 (by omega),←ZfE s 4 2 (by omega),←ZfE s 6 2 (by omega),←ZfE s 8 2 (by omega),←ZfE s 10 4 (by omega),←ZfE s 14 4 (by omega),←ZfE s 18 4 (by omega),←ZfE s 22 4 (by omega),←ZfE s 26 2 (by omega),←ZfE s 28 2 (by omega)]
 rw [show s.take 30=s.take (28+2) from rfl,Zej s 28 2,show s.take 28=s.take (26+2) from rfl,Zej s 26 2,show s.take 26=s.take (22+4) from rfl,Zej s 22 4,show s.take 22=s.take (18+4) from rfl,Zej s 18 4,
  show s.take 18=s.take (14+4) from rfl,Zej s 14 4,show s.take 14=s.take (10+4) from rfl,Zej s 10 4,show s.take 10=s.take (8+2) from rfl,Zej s 8 2,show s.take 8=s.take (6+2) from rfl,Zej s 6 2,
  show s.take 6=s.take (4+2) from rfl,Zej s 4 2,show s.take 4=s.take (0+4) from rfl,Zej s 0 4,List.take_zero,List.nil_append]
theorem Zgm {a b c d:Str} (hl:a.length=c.length):a++b=c++d↔a=c∧b=d:=by
 constructor
 ·intro h;exact List.append_inj h hl
 ·rintro ⟨rfl,rfl⟩;rfl
theorem ZnU (s:Str) (h:30≤s.length) (how stamp crc packed long name:Nat) (h1:how<65536) (h2:stamp<4294967296) (h3:crc<4294967296) (h4:packed<4294967296) (h5:long<4294967296) (h6:name<65536) :
  ZpD how stamp crc packed long name=s.take 30↔leN s 0 4=67324752∧leN s 4 2=20∧leN s 6 2=0∧leN s 8 2=how∧leN s 10 4=stamp∧leN s 14 4=crc∧leN s 18 4=packed∧leN s 22 4=long∧leN s 26 2=name∧leN s 28 2=0:=by
 have two:∀a,leN s a 2<256^2:=fun a=>ZfS s a 2
 have four:∀a,leN s a 4<256^4:=fun a=>ZfS s a 4
 have inj:∀{n m k:Nat},n<256^k→m<256^k→(leB n k=leB m k↔m=n):=fun hn hm=>⟨fun h=>(Zxl hn hm h).symm,fun h=>by rw [h]⟩
 rw [take30 s h]
 unfold ZpD
 rw [Zgm (by simp only [List.length_append,ZaG]),Zgm (by simp only [List.length_append,ZaG]),Zgm (by simp only [List.length_append,ZaG]),Zgm (by simp only [List.length_append,ZaG]),Zgm (by simp only [List.length_append,ZaG]),
  Zgm (by simp only [List.length_append,ZaG]),Zgm (by simp only [List.length_append,ZaG]),Zgm (by simp only [List.length_append,ZaG]),Zgm (by simp only [List.length_append,ZaG])]
 rw [inj (by omega) (four 0),inj (by omega) (two 4),inj (by omega) (two 6),inj (by omega) (two 8),inj (by omega) (four 10),inj (by omega) (four 14),inj (by omega) (four 18),inj (by omega) (four 22),inj (by omega) (two 26),inj (by omega) (two 28)]
 simp only [and_assoc]
theorem Zjg (name:Str) (hn:name.length≤1048576) (y mo d h mi sec:Int) (text:Str):Zb5 name y mo d h mi sec text=some (Zdh name&&(stM y mo d h mi sec&&decide (text.length≤300))):=by
 unfold Zb5
 rw [ZnS name hn]
 simp only [Zaa]
 rw [ZiJ]
 simp only [Zaa]
 have e:decide ((text.length:Int)≤300)=decide (text.length≤300):=by
  by_cases h:text.length≤300
  ·rw [decide_eq_true h,decide_eq_true (by omega)]
  ·rw [decide_eq_false h,decide_eq_false (by omega)]
 rw [e]
 cases Zdh name<;>cases stM y mo d h mi sec<;>rfl
theorem ZfA (name:Str) (hn:name.length≤1048576) (y mo d h mi sec:Int) (text:Str):ZaX name y mo d h mi sec text=some (Zdh name&&(stM y mo d h mi sec&&decide (text.length≤300))):=by
 unfold ZaX
 rw [ZnA name hn]
 simp only [Zaa]
 rw [ZlR]
 simp only [Zaa]
 have e:decide ((text.length:Int)≤300)=decide (text.length≤300):=by
  by_cases h:text.length≤300
  ·rw [decide_eq_true h,decide_eq_true (by omega)]
  ·rw [decide_eq_false h,decide_eq_false (by omega)]
 rw [e]
 cases Zdh name<;>cases stM y mo d h mi sec<;>rfl
theorem Zk9 (name:Str) (hn:name.length≤1048576) {y mo d h mi sec:Nat} (hk:stM y mo d h mi sec=true) (text:Str) (ht:text.length≤1048576) (how packed:Nat) (hh:how≤65535) (hp:packed≤4294967295) :
  Zdy name y mo d h mi sec text how packed=some (ZpD how (stN y mo d h mi sec) (Zoi text) packed text.length name.length):=by
 have hst:=(Znv hk).2
 have hcr:=ZhN text
 have n20:=Zb8 20 2 (by omega) (by omega)
 have n0:=Zb8 0 2 (by omega) (by omega)
 have n1:=Zb8 how 2 (by omega) (by omega)
 have n2:=Zb8 (stN y mo d h mi sec) 4 (by omega) (by omega)
 have n3:=Zb8 (Zoi text) 4 (by omega) (by omega)
 have n4:=Zb8 packed 4 (by omega) (by omega)
 have n5:=Zb8 text.length 4 (by omega) (by omega)
 have n6:=Zb8 name.length 2 (by omega) (by omega)
 rw [show ((20:Nat):Int)=20 from rfl,show ((2:Nat):Int)=2 from rfl] at n20
 rw [show ((0:Nat):Int)=0 from rfl,show ((2:Nat):Int)=2 from rfl] at n0
 rw [show ((2:Nat):Int)=2 from rfl] at n1 n6
 rw [show ((4:Nat):Int)=4 from rfl] at n2 n3 n4 n5
 have L:∀n k,(leB n k).length=k:=ZaG
 have mark:([80,75,3,4]:Str)=leB 67324752 4:=by decide
 unfold Zdy
 rw [n20,n0,mark]
 simp only [Zaa]
 rw [Zad (by simp only [List.length_append,L];omega),Zad (by simp only [List.length_append,L];omega),n1]
 simp only [Zaa]
 rw [Zad (by simp only [List.length_append,L];omega),Zkr hk]
 simp only [Zaa]
 rw [n2]
 simp only [Zaa]
 rw [Zad (by simp only [List.length_append,L];omega),crc_eq text (by omega)]
 simp only [Zaa]
 rw [n3]
 simp only [Zaa]
 rw [Zad (by simp only [List.length_append,L];omega),n4]
 simp only [Zaa]
 rw [Zad (by simp only [List.length_append,L];omega),n5]
 simp only [Zaa]
 rw [Zad (by simp only [List.length_append,L];omega),n6]
 simp only [Zaa]
 rw [Zad (by simp only [List.length_append,L];omega),Zad (by simp only [List.length_append,L];omega)]
 rfl
end Ev
end
section
namespace Ev
open Go
abbrev Fil:=Str×Int×Int×Int×Int×Int×Int×Str
def Zgs (s:Str):Str×Int×Bool:=if 700<s.length then ([],0,false) else Zwl (ZsU s)
theorem ZwL:∀(f:Nat) (l:List Bool) (out:List Int) {l':List Bool} {o:List Int},mGo f l out=some (l',o)→o.length≤300
 | 0,l,out,l',o,h=>by cases h
 | f+1,l,out,l',o,h=>by
  rw [mGo] at h
  cases hp:ZlX l out with
  | none=>rw [hp] at h;cases h
  | some p=>
   obtain ⟨b,l1,o1⟩:=p
   rw [hp] at h
   simp only [Option.bind_some] at h
   by_cases h3:300<o1.length
   ·rw [if_pos h3] at h;cases h
   ·rw [if_neg h3] at h
    cases b with
    | true=>
     obtain ⟨_,rfl⟩:=Prod.mk.inj (Option.some.inj h)
     omega
    | false=>exact ZwL f l1 o1 h
theorem ZpO (s:Str):(Zgs s).1.length≤300:=by
 unfold Zgs
 split
 ·simp
 ·unfold ZsU
  cases hg:mGo (8*s.length+1) (ZcT s) [] with
  | none=>simp [Zwl]
  | some p=>
   obtain ⟨l,o⟩:=p
   have:=ZwL _ _ _ hg
   simp only [Option.bind_some]
   cases Zds (some l) with
   | none=>simp [Zwl]
   | some l'=>simp [Zwl,ZbM];exact this
def Zvn (how:Nat) (body:Str):Option Str:=
 if how=0 then some body else if how=8 then (if (Zgs body).2.2=true∧(Zgs body).2.1=(body.length:Int) then some (Zgs body).1 else none) else none
def ZqJ (s t:Str):Prop:=Zdh ((s.drop 30).take (leN s 26 2))=true∧stM (stG (leN s 10 4)).y (stG (leN s 10 4)).mo (stG (leN s 10 4)).d (stG (leN s 10 4)).h (stG (leN s 10 4)).mi (stG (leN s 10 4)).sec=true∧t.length≤300∧
    leN s 0 4=67324752∧leN s 4 2=20∧leN s 6 2=0∧leN s 28 2=0∧leN s 14 4=Zoi t∧leN s 22 4=t.length
instance (s t:Str):Decidable (ZqJ s t):=by unfold ZqJ;infer_instance
def ZgN (s:Str):Option (Fil×Nat):=
 if s.length<30 then none else if s.length<30+leN s 26 2+leN s 18 4 then none else
  match Zvn (leN s 8 2) ((s.drop (30+leN s 26 2)).take (leN s 18 4)) with
  | none=>none
  | some t=>if ZqJ s t then
    some (((s.drop 30).take (leN s 26 2),((stG (leN s 10 4)).y:Int),((stG (leN s 10 4)).mo:Int),((stG (leN s 10 4)).d:Int),((stG (leN s 10 4)).h:Int),((stG (leN s 10 4)).mi:Int),((stG (leN s 10 4)).sec:Int),t),30+leN s 26 2+leN s 18 4)
   else none
def ZwN:Option (Fil×Nat)→Str×Int×Int×Int×Int×Int×Int×Str×Int×Bool
 | none=>([],0,0,0,0,0,0,[],0,false)
 | some (e,n)=>(e.1,e.2.1,e.2.2.1,e.2.2.2.1,e.2.2.2.2.1,e.2.2.2.2.2.1,e.2.2.2.2.2.2.1,e.2.2.2.2.2.2.2,(n:Int),true)
theorem Zta (s:Str):Zbh s=some (Zgs s):=ZqY s
theorem ZlT (s:Str):Zbl s=some (Zgs s):=Zkt s
theorem Zqv {P:Prop} [Decidable P] (h:¬P):some true=some (!decide P):=by rw [decide_eq_false h];rfl
theorem Zw6 {P:Prop} [Decidable P] (h:P):some false=some (!decide P):=by rw [decide_eq_true h];rfl
theorem Zwz (s:Str) (h30:30≤s.length) (hs:s.length≤1048576) (hbig:30+leN s 26 2+leN s 18 4≤s.length) (y mo d h mi sec:Int) (t:Str) (ht:t.length≤1048576)
  (hg:(y,mo,d,h,mi,sec)=if stM (stG (leN s 10 4)).y (stG (leN s 10 4)).mo (stG (leN s 10 4)).d (stG (leN s 10 4)).h (stG (leN s 10 4)).mi (stG (leN s 10 4)).sec then
   (((stG (leN s 10 4)).y:Int),((stG (leN s 10 4)).mo:Int),((stG (leN s 10 4)).d:Int),((stG (leN s 10 4)).h:Int),((stG (leN s 10 4)).mi:Int),((stG (leN s 10 4)).sec:Int)) else (0,0,0,0,0,0)) :
  ((Zb5 ((s.drop 30).take (leN s 26 2)) y mo d h mi sec t).bind fun EntryOk=>(bif (!EntryOk) then (some true) else
   ((Zdy ((s.drop 30).take (leN s 26 2)) y mo d h mi sec t (leN s 8 2:Int) (leN s 18 4:Int)).bind fun headOf_=>(need (decide (0≤(30:Int))&&decide ((30:Int)≤s.length)) (some (!(headOf_==(s.take 30)))))))) =
  some (!decide (ZqJ s t)):=by
 have two:∀a,leN s a 2<256^2:=fun a=>ZfS s a 2
 have four:∀a,leN s a 4<256^4:=fun a=>ZfS s a 4
 have t26:=two 26
 have t8:=two 8
 have f18:=four 18
 have f10:=four 10
 have hnl:((s.drop 30).take (leN s 26 2)).length=leN s 26 2:=by rw [List.length_take,List.length_drop];omega
 rw [Zjg _ (by omega)]
 simp only [Zaa]
 cases hst:stM (stG (leN s 10 4)).y (stG (leN s 10 4)).mo (stG (leN s 10 4)).d (stG (leN s 10 4)).h (stG (leN s 10 4)).mi (stG (leN s 10 4)).sec with
 | false=>
  rw [hst] at hg
  obtain ⟨rfl,hg'⟩:=Prod.mk.inj hg
  have:stM 0 mo d h mi sec=false:=by unfold stM;rw [decide_eq_false (by omega)];rfl
  rw [this,Bool.false_and,Bool.and_false,Bool.not_false,cond_true]
  exact Zqv (P:=ZqJ s t) (fun q=>absurd q.2.1 (by rw [hst];simp))
 | true=>
  rw [hst] at hg
  simp only [if_true] at hg
  obtain ⟨g1,hg1⟩:=Prod.mk.inj hg
  obtain ⟨g2,hg2⟩:=Prod.mk.inj hg1
  obtain ⟨g3,hg3⟩:=Prod.mk.inj hg2
  obtain ⟨g4,hg4⟩:=Prod.mk.inj hg3
  obtain ⟨g5,g6⟩:=Prod.mk.inj hg4
  clear hg hg1 hg2 hg3 hg4
  subst g1 g2 g3 g4 g5 g6
  rw [hst,Bool.true_and]
  by_cases hA:Zdh ((s.drop 30).take (leN s 26 2))=true∧t.length≤300
  ·rw [hA.1,decide_eq_true hA.2]
   simp only [Bool.and_self,Bool.not_true,cond_false]
   rw [Zk9 _ (by omega) hst t ht _ _ (by omega) (by omega),ZtF _ (by omega)]
   simp only [Zaa]
   rw [Zab _ (by simp;omega)]
   have hi:=ZnU s h30 (leN s 8 2) (leN s 10 4) (Zoi t) (leN s 18 4) t.length (leN s 26 2) (by omega) (by omega) (ZhN t) (by omega) (by omega) (by omega)
   rw [hnl]
   by_cases he:ZpD (leN s 8 2) (leN s 10 4) (Zoi t) (leN s 18 4) t.length (leN s 26 2)=s.take 30
   ·obtain ⟨q1,q2,q3,q4,q5,q6,q7,q8,q9,q10⟩:=hi.1 he
    rw [he,show (s.take 30==s.take 30)=true from beq_self_eq_true _]
    exact Zw6 (P:=ZqJ s t) ⟨hA.1,hst,hA.2,q1,q2,q3,q10,q6,q8⟩
   ·rw [beq_false_of_ne he]
    refine Zqv (P:=ZqJ s t) ?_
    rintro ⟨_,_,_,q1,q2,q3,q10,q6,q8⟩
    exact he (hi.2 ⟨q1,q2,q3,rfl,rfl,q6,rfl,q8,rfl,q10⟩)
  ·have:(Zdh ((s.drop 30).take (leN s 26 2))&&decide (t.length≤300))=false:=by
    cases hn:Zdh ((s.drop 30).take (leN s 26 2)) with
    | false=>rfl
    | true=>rw [decide_eq_false (fun q=>hA ⟨hn,q⟩)];rfl
   rw [this,Bool.not_false,cond_true]
   exact Zqv (P:=ZqJ s t) (fun q=>hA ⟨q.1,q.2.2.1⟩)
end Ev
end
section
namespace Ev
open Go
set_option maxRecDepth 100000 in
theorem ZqG (s:Str) (hs:s.length≤1048576):Zda s=some (ZwN (ZgN s)):=by
 unfold Zda ZgN
 by_cases h30:s.length<30
 ·rw [if_pos h30,decide_eq_true (by omega),cond_true];rfl
 rw [if_neg h30,decide_eq_false (by omega),cond_false]
 have two:∀a,leN s a 2<256^2:=fun a=>ZfS s a 2
 have four:∀a,leN s a 4<256^4:=fun a=>ZfS s a 4
 have t26:=two 26
 have t8:=two 8
 have f18:=four 18
 have f10:=four 10
 have n8:=Ze2 s 8 2 (by omega) (by omega) (by omega) (by omega)
 have n18:=Ze2 s 18 4 (by omega) (by omega) (by omega) (by omega)
 have n26:=Ze2 s 26 2 (by omega) (by omega) (by omega) (by omega)
 have n10:=Ze2 s 10 4 (by omega) (by omega) (by omega) (by omega)
 rw [show ((8:Nat):Int)=8 from rfl,show ((2:Nat):Int)=2 from rfl] at n8
 rw [show ((18:Nat):Int)=18 from rfl,show ((4:Nat):Int)=4 from rfl] at n18
 rw [show ((26:Nat):Int)=26 from rfl,show ((2:Nat):Int)=2 from rfl] at n26
 rw [show ((10:Nat):Int)=10 from rfl,show ((4:Nat):Int)=4 from rfl] at n10
 have hl:(s.drop 30).length=s.length-30:=List.length_drop
 rw [n8]
 simp only [Zaa]
 rw [n18]
 simp only [Zaa]
 rw [n26]
 simp only [Zaa]
 rw [Zab _ (by simp;omega),hl]
 by_cases hbig:s.length<30+leN s 26 2+leN s 18 4
 ·rw [if_pos hbig]
  have hc:(bif decide (((s.length-30:Nat):Int)<((leN s 26 2:Nat):Int)) then some true else some (decide (w64 (((s.length-30:Nat):Int)-((leN s 26 2:Nat):Int))<((leN s 18 4:Nat):Int))))=some true:=by
   by_cases c:s.length-30<leN s 26 2
   ·rw [decide_eq_true (by omega)];rfl
   ·rw [decide_eq_false (by omega),cond_false,Zaf (by omega) (by omega),decide_eq_true (by omega)]
  rw [hc]
  rfl
 rw [if_neg hbig,decide_eq_false (by omega),cond_false,Zaf (n:=((s.length-30:Nat):Int)-((leN s 26 2:Nat):Int)) (by omega) (by omega),decide_eq_false (by omega)]
 simp only [Zaa,cond_false]
 rw [Zaf (n:=((leN s 26 2:Nat):Int)+((leN s 18 4:Nat):Int)) (by omega) (by omega),show ((leN s 26 2:Nat):Int)+((leN s 18 4:Nat):Int)=((leN s 26 2+leN s 18 4:Nat):Int) by omega]
 rw [Zab _ (by simp;omega),Zab _ (by simp;omega),Zab _ (by simp;omega),n10]
 simp only [Zaa]
 rw [Zqt _ (by omega)]
 have hbody:(((s.drop 30).take (leN s 26 2+leN s 18 4)).drop (leN s 26 2))=(s.drop (30+leN s 26 2)).take (leN s 18 4):=by
  rw [List.drop_take,List.drop_drop];congr 1;omega
 rw [Int.toNat_natCast,Int.toNat_natCast,hbody]
 have hbl:((s.drop (30+leN s 26 2)).take (leN s 18 4)).length=leN s 18 4:=by rw [List.length_take,List.length_drop];omega
 obtain ⟨g,hg⟩:∃g:Int×Int×Int×Int×Int×Int,g=if stM (stG (leN s 10 4)).y (stG (leN s 10 4)).mo (stG (leN s 10 4)).d (stG (leN s 10 4)).h (stG (leN s 10 4)).mi (stG (leN s 10 4)).sec then
   (((stG (leN s 10 4)).y:Int),((stG (leN s 10 4)).mo:Int),((stG (leN s 10 4)).d:Int),((stG (leN s 10 4)).h:Int),((stG (leN s 10 4)).mi:Int),((stG (leN s 10 4)).sec:Int)) else (0,0,0,0,0,0):=⟨_,rfl⟩
 obtain ⟨y,mo,d,h,mi,sec⟩:=g
 obtain ⟨b,hb⟩:∃b:Bool,(if stM (stG (leN s 10 4)).y (stG (leN s 10 4)).mo (stG (leN s 10 4)).d (stG (leN s 10 4)).h (stG (leN s 10 4)).mi (stG (leN s 10 4)).sec then
  (((stG (leN s 10 4)).y:Int),((stG (leN s 10 4)).mo:Int),((stG (leN s 10 4)).d:Int),((stG (leN s 10 4)).h:Int),((stG (leN s 10 4)).mi:Int),((stG (leN s 10 4)).sec:Int),true) else (0,0,0,0,0,0,false))=(y,mo,d,h,mi,sec,b):=by
  cases hst:stM (stG (leN s 10 4)).y (stG (leN s 10 4)).mo (stG (leN s 10 4)).d (stG (leN s 10 4)).h (stG (leN s 10 4)).mi (stG (leN s 10 4)).sec with
  | true=>
   rw [hst] at hg
   simp only [if_true] at hg ⊢
   exact ⟨true,by simp only [Prod.mk.injEq] at hg ⊢;simp [hg]⟩
  | false=>
   rw [hst] at hg
   simp only [Bool.false_eq_true,if_false] at hg ⊢
   exact ⟨false,by simp only [Prod.mk.injEq] at hg ⊢;simp [hg]⟩
 rw [hb]
 simp only [Zaa]
 have fin:∀t:Str,t.length≤1048576→
   (((Zb5 ((s.drop 30).take (leN s 26 2)) y mo d h mi sec t).bind fun EntryOk=>(bif (!EntryOk) then (some true) else
    ((Zdy ((s.drop 30).take (leN s 26 2)) y mo d h mi sec t (leN s 8 2:Int) (leN s 18 4:Int)).bind fun headOf_=>(need (decide (0≤(30:Int))&&decide ((30:Int)≤s.length)) (some (!(headOf_==(s.take 30)))))))).bind fun c2=>
    (bif c2 then (some (([],0,0,0,0,0,0,[],0,false):Str×Int×Int×Int×Int×Int×Int×Str×Int×Bool)) else
     (some ((s.drop 30).take (leN s 26 2),y,mo,d,h,mi,sec,t,(w64 ((w64 (30+((leN s 26 2:Nat):Int)))+((leN s 18 4:Nat):Int))),true)))) =
   some (ZwN (if ZqJ s t then
    some (((s.drop 30).take (leN s 26 2),((stG (leN s 10 4)).y:Int),((stG (leN s 10 4)).mo:Int),((stG (leN s 10 4)).d:Int),((stG (leN s 10 4)).h:Int),((stG (leN s 10 4)).mi:Int),((stG (leN s 10 4)).sec:Int),t),30+leN s 26 2+leN s 18 4)
   else none)):=by
  intro t ht
  rw [Zwz s (by omega) hs (by omega) y mo d h mi sec t ht hg]
  simp only [Zaa]
  by_cases hp:ZqJ s t
  ·have hst:=hp.2.1
   rw [hst] at hg
   simp only [if_true,Prod.mk.injEq] at hg
   obtain ⟨g1,g2,g3,g4,g5,g6⟩:=hg
   subst g1 g2 g3 g4 g5 g6
   rw [if_pos hp,decide_eq_true hp,Bool.not_true,cond_false,Zaf (n:=30+((leN s 26 2:Nat):Int)) (by omega) (by omega),Zaf (by omega) (by omega)]
   unfold ZwN
   dsimp only
   congr 9
  ·rw [if_neg hp,decide_eq_false hp];rfl
 by_cases c0:leN s 8 2=0
 ·rw [c0] at fin ⊢
  rw [show (((0:Nat):Int)==0)=true from rfl,cond_true]
  simp only [Zaa]
  exact fin _ (by rw [hbl];omega)
 rw [show (((leN s 8 2:Nat):Int)==0)=false by simp only [beq_eq_false_iff_ne,ne_eq];omega,cond_false]
 by_cases c8:leN s 8 2=8
 ·rw [c8] at fin ⊢
  rw [show (((8:Nat):Int)==8)=true by simp,cond_true,Zta]
  simp only [Zaa]
  have hle:=ZpO ((s.drop (30+leN s 26 2)).take (leN s 18 4))
  unfold Zvn
  rw [if_neg (by omega),if_pos rfl,hbl]
  generalize Zgs ((s.drop (30+leN s 26 2)).take (leN s 18 4))=R at hle
  obtain ⟨t,n,ok⟩:=R
  dsimp only at hle ⊢
  cases ok with
  | false=>rw [if_neg (by simp)];rfl
  | true=>
   simp only [Bool.not_true,cond_false,Zaa,true_and]
   by_cases hn:n=((leN s 18 4:Nat):Int)
   ·rw [if_pos hn,show (n != ((leN s 18 4:Nat):Int))=false by simp [hn],cond_false]
    simp only [Zaa]
    exact fin t (by omega)
   ·rw [if_neg hn,show (n != ((leN s 18 4:Nat):Int))=true by simp [hn],cond_true];rfl
 ·rw [show (((leN s 8 2:Nat):Int)==8)=false by simp only [beq_eq_false_iff_ne,ne_eq];omega,cond_false]
  unfold Zvn
  rw [if_neg c0,if_neg c8];rfl
end Ev
end
section
namespace Ev
open Go
def Zoc (s:Str) (r:Str×Int×Int×Int×Int×Int×Int×Str×Int×Bool):Prop:=match ZgN s with
 | some p=>r=ZwN (some p)
 | none=>r.2.2.2.2.2.2.2.2.2=false
theorem eqI (a b:Nat):((a:Int)==(b:Int))=decide (a=b):=by
 by_cases h:a=b
 ·subst h;simp
 ·rw [decide_eq_false h];simp;omega
set_option maxRecDepth 100000 in
theorem Zpk (s:Str) (hs:s.length≤1048576):Ret (Zd4 s) (Zoc s):=by
 unfold Zd4
 have two:∀a,leN s a 2<256^2:=fun a=>ZfS s a 2
 have four:∀a,leN s a 4<256^4:=fun a=>ZfS s a 4
 have t26:=two 26
 have t8:=two 8
 have f18:=four 18
 have f10:=four 10
 have q:=fun a K (h1:K≤4) (h2:1≤K) (h3:a≤2000000000)=>ZnN s a K h1 h2 (by omega) h3
 have n26:ZbR s 26 2=_:=q 26 2 (by omega) (by omega) (by omega)
 have n18:ZbR s 18 4=_:=q 18 4 (by omega) (by omega) (by omega)
 have n0:ZbR s 0 4=_:=q 0 4 (by omega) (by omega) (by omega)
 have n4:ZbR s 4 2=_:=q 4 2 (by omega) (by omega) (by omega)
 have n6:ZbR s 6 2=_:=q 6 2 (by omega) (by omega) (by omega)
 have n28:ZbR s 28 2=_:=q 28 2 (by omega) (by omega) (by omega)
 have n10:ZbR s 10 4=_:=q 10 4 (by omega) (by omega) (by omega)
 have n8:ZbR s 8 2=_:=q 8 2 (by omega) (by omega) (by omega)
 have n14:ZbR s 14 4=_:=q 14 4 (by omega) (by omega) (by omega)
 have n22:ZbR s 22 4=_:=q 22 4 (by omega) (by omega) (by omega)
 rw [n26,n18,n0,n4,n6,n28,n10,n8,n14,n22]
 simp only [Zaa]
 by_cases h30:s.length<30
 ·have hno:ZgN s=none:=by unfold ZgN;rw [if_pos h30]
  rw [if_neg (show ¬28+2≤s.length by omega),show (((-1:Int))==0)=false from rfl]
  have hh:∀(a b c:Bool),(bif a then bif b then bif c then some false else some false else some false else some false)=some false:=fun a b c=>by cases a<;>cases b<;>cases c<;>rfl
  rw [hh]
  simp only [Zaa,Bool.not_false,cond_true]
  refine .pure ?_
  unfold Zoc
  rw [hno]
 rw [if_pos (show 26+2≤s.length by omega),if_pos (show 18+4≤s.length by omega),if_pos (show 0+4≤s.length by omega),if_pos (show 4+2≤s.length by omega),if_pos (show 6+2≤s.length by omega),if_pos (show 28+2≤s.length by omega),
  if_pos (show 10+4≤s.length by omega),if_pos (show 8+2≤s.length by omega),if_pos (show 14+4≤s.length by omega),if_pos (show 22+4≤s.length by omega)]
 rw [show (67324752:Int)=((67324752:Nat):Int) from rfl,show (((leN s 4 2:Nat):Int)==20)=decide (leN s 4 2=20) from eqI _ 20,show (((leN s 6 2:Nat):Int)==0)=decide (leN s 6 2=0) from eqI _ 0,show (((leN s 28 2:Nat):Int)==0)=decide (leN s 28 2=0) from eqI _ 0,eqI]
 by_cases hd:leN s 0 4=67324752∧leN s 4 2=20∧leN s 6 2=0∧leN s 28 2=0
 ·rw [decide_eq_true hd.1,decide_eq_true hd.2.1,decide_eq_true hd.2.2.1,decide_eq_true hd.2.2.2]
  simp only [cond_true,Zaa,Bool.not_true,cond_false]
  rw [decide_eq_false (show ¬((leN s 26 2:Nat):Int)<0 by omega),decide_eq_false (show ¬((leN s 18 4:Nat):Int)<0 by omega)]
  simp only [cond_false,Zaa]
  rw [Zaf (n:=30+((leN s 26 2:Nat):Int)) (by omega) (by omega),Zaf (n:=30+((leN s 26 2:Nat):Int)+((leN s 18 4:Nat):Int)) (by omega) (by omega),show 30+((leN s 26 2:Nat):Int)+((leN s 18 4:Nat):Int)=((30+leN s 26 2+leN s 18 4:Nat):Int) by omega,show 30+((leN s 26 2:Nat):Int)=((30+leN s 26 2:Nat):Int) by omega]
  by_cases hbig:s.length<30+leN s 26 2+leN s 18 4
  ·have hno:ZgN s=none:=by unfold ZgN;rw [if_neg h30,if_pos hbig]
   rw [decide_eq_true (by omega),cond_true]
   refine .pure ?_
   unfold Zoc
   rw [hno]
  rw [decide_eq_false (by omega),cond_false,Zab _ (by simp;omega),Zab _ (by simp;omega),Zv8 _ (by omega)]
  simp only [Zaa]
  rw [Zab _ (by simp;omega),Zab _ (by simp;omega),Int.toNat_natCast,Int.toNat_natCast]
  have hbody:(s.take (30+leN s 26 2+leN s 18 4)).drop (30+leN s 26 2)=(s.drop (30+leN s 26 2)).take (leN s 18 4):=by
   rw [List.drop_take];congr 1;omega
  have hname:(s.take (30+leN s 26 2)).drop 30=(s.drop 30).take (leN s 26 2):=by
   rw [List.drop_take];congr 1;omega
  have hnl:((s.drop 30).take (leN s 26 2)).length=leN s 26 2:=by rw [List.length_take,List.length_drop];omega
  have hbl:((s.drop (30+leN s 26 2)).take (leN s 18 4)).length=leN s 18 4:=by rw [List.length_take,List.length_drop];omega
  rw [hbody,hname]
  have htx:∃(t:Str) (b:Bool),Zfo ((leN s 8 2:Nat):Int) ((s.drop (30+leN s 26 2)).take (leN s 18 4))=some (t,b)∧t.length≤1048576∧Zvn (leN s 8 2) ((s.drop (30+leN s 26 2)).take (leN s 18 4))=if b then some t else none:=by
   unfold Zfo Zvn
   by_cases c0:leN s 8 2=0
   ·rw [c0,if_pos rfl]
    exact ⟨_,true,rfl,by rw [hbl];omega,rfl⟩
   rw [show (((leN s 8 2:Nat):Int)==0)=false by simp only [beq_eq_false_iff_ne,ne_eq];omega,cond_false,if_neg c0,ZlT]
   have hle:=ZpO ((s.drop (30+leN s 26 2)).take (leN s 18 4))
   generalize Zgs ((s.drop (30+leN s 26 2)).take (leN s 18 4))=R at hle
   obtain ⟨t,n,ok⟩:=R
   dsimp only at hle
   simp only [Zaa]
   rw [show (((leN s 8 2:Nat):Int)==8)=decide (leN s 8 2=8) from eqI _ 8]
   by_cases c8:leN s 8 2=8
   ·rw [if_pos c8,decide_eq_true c8]
    cases ok with
    | false=>exact ⟨t,false,rfl,by omega,by rw [if_neg (by simp)];rfl⟩
    | true=>
     by_cases hn:n=((((s.drop (30+leN s 26 2)).take (leN s 18 4)).length:Nat):Int)
     ·exact ⟨t,true,by simp [hn],by omega,by rw [if_pos ⟨rfl,hn⟩];rfl⟩
     ·refine ⟨t,false,?_,by omega,by rw [if_neg (fun e=>hn e.2)];rfl⟩
      rw [beq_false_of_ne hn];rfl
   ·rw [if_neg c8,decide_eq_false c8]
    cases ok<;>exact ⟨t,false,rfl,by omega,rfl⟩
  obtain ⟨t,b,e,htl,hun⟩:=htx
  rw [e]
  simp only [Zaa]
  rw [Zmg t (by omega)]
  simp only [Zaa]
  rw [eqI,eqI]
  have hloc:ZgN s=match (if b then some t else none) with
    | none=>none
    | some t=>if ZqJ s t then
     some (((s.drop 30).take (leN s 26 2),((stG (leN s 10 4)).y:Int),((stG (leN s 10 4)).mo:Int),((stG (leN s 10 4)).d:Int),((stG (leN s 10 4)).h:Int),((stG (leN s 10 4)).mi:Int),((stG (leN s 10 4)).sec:Int),t),30+leN s 26 2+leN s 18 4)
     else none:=by
   unfold ZgN;rw [if_neg h30,if_neg hbig,hun]<;>cases b<;>rfl
  cases b with
  | false=>
   simp only [cond_false,Zaa]
   refine .pure ?_
   unfold Zoc
   rw [hloc]
   rfl
  | true=>
   simp only [if_true] at hloc
   simp only [cond_true]
   by_cases hc:leN s 14 4=Zoi t∧leN s 22 4=t.length
   ·rw [decide_eq_true hc.1,decide_eq_true hc.2]
    simp only [cond_true,Zaa]
    rw [ZfA _ (by omega)]
    simp only [Zaa]
    refine .pure ?_
    unfold Zoc
    rw [hloc]
    by_cases hC:ZqJ s t
    ·rw [if_pos hC]
     show _=_
     have h1:=hC.1
     have h2:=hC.2.1
     have h3:=hC.2.2.1
     rw [h1,h2,decide_eq_true h3]
     rfl
    ·rw [if_neg hC]
     show (Zdh ((s.drop 30).take (leN s 26 2))&&(stM (stG (leN s 10 4)).y (stG (leN s 10 4)).mo (stG (leN s 10 4)).d (stG (leN s 10 4)).h (stG (leN s 10 4)).mi (stG (leN s 10 4)).sec&&decide (t.length≤300)))=false
     cases hn:Zdh ((s.drop 30).take (leN s 26 2)) with
     | false=>rfl
     | true=>
      cases hst:stM (stG (leN s 10 4)).y (stG (leN s 10 4)).mo (stG (leN s 10 4)).d (stG (leN s 10 4)).h (stG (leN s 10 4)).mi (stG (leN s 10 4)).sec with
      | false=>rfl
      | true=>
       by_cases h3:t.length≤300
       ·exact absurd ⟨hn,hst,h3,hd.1,hd.2.1,hd.2.2.1,hd.2.2.2,hc.1,hc.2⟩ hC
       ·rw [decide_eq_false h3];rfl
   ·have hC:¬ZqJ s t:=fun q=>hc ⟨q.2.2.2.2.2.2.2.1,q.2.2.2.2.2.2.2.2⟩
    rw [if_neg hC] at hloc
    have e2:(bif decide (leN s 14 4=Zoi t) then some (decide (leN s 22 4=t.length)) else some false)=some false:=by
     by_cases h1:leN s 14 4=Zoi t
     ·rw [decide_eq_true h1,decide_eq_false (fun q=>hc ⟨h1,q⟩)];rfl
     ·rw [decide_eq_false h1];rfl
    rw [e2]
    simp only [Zaa,cond_false]
    refine .pure ?_
    unfold Zoc
    rw [hloc]
 ·have hh:(bif decide (leN s 0 4=67324752) then bif decide (leN s 4 2=20) then bif decide (leN s 6 2=0) then some (decide (leN s 28 2=0)) else some false else some false else some false)=some false:=by
   by_cases a1:leN s 0 4=67324752
   ·by_cases a2:leN s 4 2=20
    ·by_cases a3:leN s 6 2=0
     ·rw [decide_eq_true a1,decide_eq_true a2,decide_eq_true a3,decide_eq_false (fun a4=>hd ⟨a1,a2,a3,a4⟩)];rfl
     ·rw [decide_eq_true a1,decide_eq_true a2,decide_eq_false a3];rfl
    ·rw [decide_eq_true a1,decide_eq_false a2];rfl
   ·rw [decide_eq_false a1];rfl
  rw [hh]
  simp only [Zaa,Bool.not_false,cond_true]
  refine .pure ?_
  unfold Zoc
  have hno:ZgN s=none:=by
   unfold ZgN
   rw [if_neg h30]
   split
   ·rfl
   ·split
    ·rfl
    ·rw [if_neg (fun q=>hd ⟨q.2.2.2.1,q.2.2.2.2.1,q.2.2.2.2.2.1,q.2.2.2.2.2.2.1⟩)]
  rw [hno]
end Ev
end
section
namespace Ev
open Go
def Zfc (a b:Str):Bool:=decide (a.length<b.length)&&((b.take a.length==a)&&(b.getD a.length 0==47))
def pre (s p:Str):Bool:=decide (p.length≤s.length)&&(s.take p.length==p)
theorem Zi2 (a b:Str):ZcW a b=some (Zfc a b):=by
 unfold ZcW Zfc
 simp only [ZgX,gt_iff_lt,Int.toNat_natCast]
 by_cases h:a.length<b.length
 ·rw [if_pos (by omega),Zab _ (Zif (by omega)),Zab _ (Zav h),decide_eq_true h]
  have hb:=Zvb (b.getD a.length 0) 47 (by decide)
  rw [show ((47:Nat):Int)=47 from rfl] at hb
  rw [hb,show UInt8.ofNat 47=47 from rfl]
  cases (b.take a.length==a)<;>rfl
 ·rw [if_neg (by omega),decide_eq_false h];rfl
theorem ZpE (s p:Str):Zck s p=some (pre s p):=by
 unfold Zck Zcg pre
 simp only [ZgX,ge_iff_le,Int.toNat_natCast]
 by_cases h:p.length≤s.length
 ·rw [if_pos (by omega),Zab _ (Zif h),decide_eq_true h];rfl
 ·rw [if_neg (by omega),decide_eq_false h];rfl
theorem ZhZ (a b:Str):pre b (a++[47])=Zfc a b:=by
 unfold pre Zfc
 rw [Bool.eq_iff_iff]
 simp only [Bool.and_eq_true,decide_eq_true_eq,beq_iff_eq,List.length_append,List.length_singleton]
 constructor
 ·rintro ⟨h1,h2⟩
  have h3:a.length<b.length:=by omega
  rw [List.take_succ_eq_append_getElem h3] at h2
  obtain ⟨e1,e2⟩:=List.append_inj h2 (by simp;omega)
  refine ⟨h3,e1,?_⟩
  simp at e2
  simp [List.getD,h3,e2]
 ·rintro ⟨h1,h2,h3⟩
  refine ⟨by omega,?_⟩
  rw [List.take_succ_eq_append_getElem h1,h2]
  have:b[a.length]=47:=by simpa [List.getD,h1] using h3
  rw [this]
theorem Zsu (a:Str):Zfc a a=false:=by unfold Zfc;simp
end Ev
end
section
namespace Ev
open Go
def hit (a b:Str):Bool:=a==b||(pre a (b++[47])||pre b (a++[47]))
theorem ZwD (names u:List Str) (a:Str) (t3:List Str) (t4 t5:Int) (ha:a.length≤1048576) (hu:∀b,b∈u→b.length≤1048576) (hul:u.length≤1048576):∀k j,j+k=u.length→
  ZcO.l0 (k+1) (names,a,t3,t4,t5,u,(u.length:Int),(j:Int))=some (if (u.drop j).all (fun b=>!hit a b) then .inl (names,t3,t4,t5) else .inr (.inr false)):=by
 intro k
 induction k with
 | zero=>
  intro j hj
  rw [ZcO.l0.succ]
  simp only [ZcO.l0.step]
  rw [Za0 (by omega),List.drop_eq_nil_of_le (by omega)]
  rfl
 | succ k ih=>
  intro j hj
  have hjl:j<u.length:=by omega
  have hd:u.drop j=u[j]::u.drop (j+1):=List.drop_eq_getElem_cons hjl
  have hg:u.getD j []=u[j]:=by simp [List.getD,hjl]
  have hm:=hu u[j] (List.getElem_mem hjl)
  rw [ZcO.l0.succ]
  simp only [ZcO.l0.step,Int.toNat_natCast,ZpE,Option.bind_some,hg]
  rw [Zab _ (Zav hjl),ZaZ hjl,cond_true,Zab _ (Zfa (by simp;omega)),Zab _ (Zfa (by simp;omega)),Zdc (by omega),ih (j+1) (by omega),hd,List.all_cons,hit]
  cases (a==u[j])<;>cases pre a (u[j]++[47])<;>cases pre u[j] (a++[47])<;>rfl
theorem ZwC (names:List Str) (hn:names.length≤1048576) (hx:∀b,b∈names→b.length≤1048576):∀k i,i+k=names.length→
  ZcO.l1 (k+1) (names,names,(names.length:Int),(i:Int))=some (if (List.range' i k).all (fun i=>(names.take i).all (fun b=>!hit (names.getD i []) b)) then .inl () else .inr false):=by
 intro k
 induction k with
 | zero=>
  intro i hi
  rw [ZcO.l1.succ]
  simp only [ZcO.l1.step]
  rw [Za0 (by omega)]
  rfl
 | succ k ih=>
  intro i hi
  have hil:i<names.length:=by omega
  have hg:names.getD i []=names[i]:=by simp [List.getD,hil]
  rw [ZcO.l1.succ]
  simp only [ZcO.l1.step,Int.toNat_natCast]
  rw [Zab _ (Zav hil),Zab _ (Zif (by omega)),ZaZ hil,cond_true,ZaJ]
  have h0:=ZwD names (names.take i) (names.getD i []) names (names.length:Int) (i:Int) (by rw [hg];exact hx _ (List.getElem_mem hil)) (fun b hb=>hx b (List.mem_of_mem_take hb)) (by simp;omega) (names.take i).length 0 (by omega)
  rw [show ((0:Nat):Int)=0 from rfl,List.drop_zero] at h0
  rw [h0,List.range'_succ,List.all_cons]
  cases (names.take i).all (fun b=>!hit (names.getD i []) b) with
  | false=>rfl
  | true=>
   simp only [if_true,Option.bind_some,Bool.true_and]
   rw [Zdc (by omega)]
   exact ih (i+1) (by omega)
theorem ZwE (names:List Str) (hn:names.length≤1048576) (hx:∀b,b∈names→b.length≤1048576):ZcO names=some ((List.range names.length).all (fun i=>(names.take i).all (fun b=>!hit (names.getD i []) b))):=by
 unfold ZcO
 have h:=ZwC names hn hx names.length 0 (by omega)
 rw [show ((0:Nat):Int)=0 from rfl] at h
 rw [ZaJ,h,List.range_eq_range']
 cases (List.range' 0 names.length).all (fun i=>(names.take i).all (fun b=>!hit (names.getD i []) b))<;>rfl
end Ev
end
section
namespace Ev
open Go
def Fil.z:Fil:=([],0,0,0,0,0,0,[])
def Zcq (e:Fil):Bool:=Zdh e.1&&(stM e.2.1 e.2.2.1 e.2.2.2.1 e.2.2.2.2.1 e.2.2.2.2.2.1 e.2.2.2.2.2.2.1&&decide (e.2.2.2.2.2.2.2.length≤300))
theorem Zrb (es:List Fil) (hn:es.length≤1048576) (hx:∀e∈es,e.1.length≤1048576):∀(j i:Nat),i+j=es.length→
  Zde.l0 (j+1) (es,es,(es.length:Int),(i:Int))=some (if (es.drop i).all Zcq then .inl es else .inr false)
 | 0,i,h=>by
  rw [Zde.l0.succ];simp only [Zde.l0.step]
  rw [Za0 (by omega),List.drop_eq_nil_of_le (by omega)];rfl
 | j+1,i,h=>by
  have hi:i<es.length:=by omega
  rw [Zde.l0.succ];simp only [Zde.l0.step]
  rw [ZaZ hi,cond_true,Zab _ ZaE,Int.toNat_natCast,show es.getD i ([],0,0,0,0,0,0,[])=es[i] from Zam hi,Zjg _ (hx _ (List.getElem_mem hi)),Zaf (by omega) (by omega),show (i:Int)+1=((i+1:Nat):Int) by omega,
   Zrb es hn hx j (i+1) (by omega),List.drop_eq_getElem_cons hi,List.all_cons]
  simp only [Zaa]
  have e:(Zdh es[i].1&&(stM es[i].2.1 es[i].2.2.1 es[i].2.2.2.1 es[i].2.2.2.2.1 es[i].2.2.2.2.2.1 es[i].2.2.2.2.2.2.1&&decide (es[i].2.2.2.2.2.2.2.length≤300)))=Zcq es[i]:=rfl
  rw [e]
  cases Zcq es[i]<;>rfl
theorem Zmw (es:List Fil) (hn:es.length≤1048576):∀(j i:Nat) (out:List Str),i+j=es.length→out.length=i→
  ZbT.l0 (j+1) (es,(es.length:Int),(i:Int),out)=some (out++(es.drop i).map Prod.fst)
 | 0,i,out,h,ho=>by
  rw [ZbT.l0.succ];simp only [ZbT.l0.step]
  rw [Za0 (by omega),List.drop_eq_nil_of_le (by omega)];simp
 | j+1,i,out,h,ho=>by
  have hi:i<es.length:=by omega
  rw [ZbT.l0.succ];simp only [ZbT.l0.step]
  rw [ZaZ hi,cond_true,Zab _ ZaE,Int.toNat_natCast,show es.getD i ([],0,0,0,0,0,0,[])=es[i] from Zam hi,Zad (by simp;omega),Zaf (by omega) (by omega),show (i:Int)+1=((i+1:Nat):Int) by omega,
   Zmw es hn j (i+1) _ (by omega) (by simp [ho]),List.drop_eq_getElem_cons hi,List.map_cons,List.append_assoc]
  rfl
theorem ZsM (es:List Fil) (hn:es.length≤1048576):ZbT es=some (es.map Prod.fst):=by
 have h:=Zmw es hn es.length 0 [] (by omega) rfl
 rw [show ((0:Nat):Int)=0 from rfl,List.drop_zero,List.nil_append] at h
 unfold ZbT
 rw [ZaJ,h];rfl
def Zf2 (names:List Str):Bool:=(List.range names.length).all fun i=>(names.take i).all fun b=>!hit (names.getD i []) b
def ZgB (es:List Fil):Bool:=es.all Zcq&&(decide (es.length≤6)&&Zf2 (es.map Prod.fst))
theorem Znm (es:List Fil) (hn:es.length≤1048576) (hx:∀e∈es,e.1.length≤1048576):Zde es=some (ZgB es):=by
 have h:=Zrb es hn hx es.length 0 (by omega)
 rw [show ((0:Nat):Int)=0 from rfl,List.drop_zero] at h
 unfold Zde ZgB
 rw [ZaJ,h]
 simp only [Zaa]
 cases es.all Zcq with
 | false=>rfl
 | true=>
  simp only [if_true,Bool.true_and]
  by_cases h6:es.length≤6
  ·rw [decide_eq_true (by omega),decide_eq_true h6,cond_true,ZsM es hn]
   simp only [Zaa]
   rw [ZwE _ (by simpa using hn) (fun b hb=>by obtain ⟨e,he,rfl⟩:=List.mem_map.1 hb;exact hx e he)]
   rfl
  ·rw [decide_eq_false (by omega),decide_eq_false h6];rfl
end Ev
end
section
namespace Ev
open Go
def ZgV (es:List Fil) (i:Nat) (n:Str):Bool:=(es.take i).all fun e=>!(e.1==n)
theorem Zus (es:List Fil) (hn:es.length≤1048576) (i:Nat) (hi:i<es.length):∀(k j:Nat),j+k=i→(∀e∈es.take j,(e.1==(es.getD i Fil.z).1)=false)→∀F,k<F→
  ∃m:Nat,Zi3.l0 F (es,(es.getD i Fil.z).1,(j:Int))=some (.inr (m:Int))∧m≤i∧(m=i↔ZgV es i (es.getD i Fil.z).1=true)
 | 0,j,h,hj,0,hF=>absurd hF (by omega)
 | 0,j,h,hj,F+1,hF=>by
  have hji:j=i:=by omega
  subst hji
  refine ⟨j,?_,Nat.le_refl _,fun _=>?_,fun _=>rfl⟩
  ·rw [Zi3.l0.succ];simp only [Zi3.l0.step]
   rw [ZaZ hi,cond_true,Zab _ ZaE,Int.toNat_natCast,show es.getD j ([],0,0,0,0,0,0,[])=es.getD j Fil.z from rfl,beq_self_eq_true,cond_true]
   rfl
  ·unfold ZgV
   rw [List.all_eq_true]
   intro e he
   rw [hj e he];rfl
 | k+1,j,h,hj,0,hF=>absurd hF (by omega)
 | k+1,j,h,hj,F+1,hF=>by
  have hlt:j<es.length:=by omega
  rw [Zi3.l0.succ];simp only [Zi3.l0.step]
  rw [ZaZ hlt,cond_true,Zab _ ZaE,Int.toNat_natCast,show es.getD j ([],0,0,0,0,0,0,[])=es[j] from Zam hlt]
  cases hc:(es[j].1==(es.getD i Fil.z).1) with
  | true=>
   rw [cond_true]
   refine ⟨j,rfl,by omega,fun e=>by omega,fun e=>?_⟩
   exfalso
   unfold ZgV at e
   rw [List.all_eq_true] at e
   have hm:es[j]∈es.take i:=List.mem_take_iff_getElem.2 ⟨j,by omega,rfl⟩
   have:=e _ hm
   rw [hc] at this;cases this
  | false=>
   rw [cond_false,Zaf (by omega) (by omega),show (j:Int)+1=((j+1:Nat):Int) by omega]
   refine Zus es hn i hi k (j+1) (by omega) (fun e he=>?_) F (by omega)
   rw [List.take_succ_eq_append_getElem hlt] at he
   rcases List.mem_append.1 he with he | he
   ·exact hj e he
   ·have:e=es[j]:=by simpa using he
    subst this;exact hc
theorem Zur (es:List Fil) (hn:es.length≤1048576) (i:Nat) (hi:i<es.length):(Zi3 es (es.getD i Fil.z).1).bind (fun m=>some (m != (i:Int)))=some (!ZgV es i (es.getD i Fil.z).1):=by
 obtain ⟨m,e,hm,hf⟩:=Zus es hn i hi i 0 (by omega) (fun e he=>by simp at he) (es.length+1) (by omega)
 rw [show ((0:Nat):Int)=0 from rfl] at e
 unfold Zi3
 rw [ZaJ,e]
 simp only [Zaa]
 cases hfm:ZgV es i (es.getD i Fil.z).1 with
 | true=>rw [hf.2 hfm];simp
 | false=>
  have:m≠i:=fun e=>by rw [hf.1 e] at hfm;cases hfm
  simp;omega
theorem Zju (es:List Fil) (hn:es.length≤1048576) (i:Nat) (hi:i<es.length):∀(k j:Nat),j+k=es.length→
  ZaA.l0 (k+1) (es,(i:Int),(j:Int))=some (if (es.drop j).all (fun q=>!Zfc (es.getD i Fil.z).1 q.1) then .inl (es,(i:Int)) else .inr (.inr false))
 | 0,j,h=>by
  rw [ZaA.l0.succ];simp only [ZaA.l0.step]
  rw [Za0 (by omega),List.drop_eq_nil_of_le (by omega)];rfl
 | k+1,j,h=>by
  have hj:j<es.length:=by omega
  rw [ZaA.l0.succ];simp only [ZaA.l0.step]
  rw [ZaZ hj,cond_true,Zab _ (Zav hi),Zab _ ZaE,Int.toNat_natCast,Int.toNat_natCast,show es.getD j ([],0,0,0,0,0,0,[])=es[j] from Zam hj,show es.getD i ([],0,0,0,0,0,0,[])=es.getD i Fil.z from rfl,Zi2,
   Zaf (by omega) (by omega),show (j:Int)+1=((j+1:Nat):Int) by omega,Zju es hn i hi k (j+1) (by omega),List.drop_eq_getElem_cons hj,List.all_cons]
  simp only [Zaa]
  cases Zfc (es.getD i Fil.z).1 es[j].1<;>rfl
def ZpG (es:List Fil) (i:Nat):Bool:=Zcq (es.getD i Fil.z)&&(ZgV es i (es.getD i Fil.z).1&&es.all fun q=>!Zfc (es.getD i Fil.z).1 q.1)
theorem Zjt (es:List Fil) (hn:es.length≤1048576) (hx:∀e∈es,e.1.length≤1048576):∀(k i:Nat),i+k=es.length→
  ZaA.l1 (k+1) (es,(i:Int))=some (if (List.range' i k).all (ZpG es) then .inl es else .inr false)
 | 0,i,h=>by
  rw [ZaA.l1.succ];simp only [ZaA.l1.step]
  rw [Za0 (by omega)];rfl
 | k+1,i,h=>by
  have hi:i<es.length:=by omega
  have hself:=Zur es hn i hi
  have h0:=Zju es hn i hi es.length 0 (by omega)
  rw [show ((0:Nat):Int)=0 from rfl,List.drop_zero] at h0
  rw [ZaA.l1.succ];simp only [ZaA.l1.step]
  rw [ZaZ hi,cond_true,Zab _ ZaE,Int.toNat_natCast,show es.getD i ([],0,0,0,0,0,0,[])=es.getD i Fil.z from rfl,ZfA _ (by rw [Zam hi];exact hx _ (List.getElem_mem hi)),Zab _ ZaE,hself,ZaJ,h0,List.range'_succ,List.all_cons]
  simp only [Zaa]
  have e:(Zdh (es.getD i Fil.z).1&&(stM (es.getD i Fil.z).2.1 (es.getD i Fil.z).2.2.1 (es.getD i Fil.z).2.2.2.1 (es.getD i Fil.z).2.2.2.2.1 (es.getD i Fil.z).2.2.2.2.2.1 (es.getD i Fil.z).2.2.2.2.2.2.1&&decide ((es.getD i Fil.z).2.2.2.2.2.2.2.length≤300)))=Zcq (es.getD i Fil.z):=rfl
  have g:ZpG es i=(Zcq (es.getD i Fil.z)&&(ZgV es i (es.getD i Fil.z).1&&es.all fun q=>!Zfc (es.getD i Fil.z).1 q.1)):=rfl
  rw [e,g]
  cases Zcq (es.getD i Fil.z) with
  | false=>rfl
  | true=>
   cases ZgV es i (es.getD i Fil.z).1 with
   | false=>rfl
   | true=>
    cases es.all (fun q=>!Zfc (es.getD i Fil.z).1 q.1) with
    | false=>rfl
    | true=>
     simp only [Bool.not_true,cond_false,Zaa,if_true,Bool.true_and]
     rw [Zaf (by omega) (by omega),show (i:Int)+1=((i+1:Nat):Int) by omega]
     exact Zjt es hn hx k (i+1) (by omega)
theorem Zox (es:List Fil) (hn:es.length≤1048576) (hx:∀e∈es,e.1.length≤1048576):ZaA es=some ((List.range es.length).all (ZpG es)&&decide (es.length≤6)):=by
 have h:=Zjt es hn hx es.length 0 (by omega)
 rw [show ((0:Nat):Int)=0 from rfl,←List.range_eq_range'] at h
 unfold ZaA
 rw [ZaJ,h]
 simp only [Zaa]
 cases (List.range es.length).all (ZpG es) with
 | false=>rfl
 | true=>
  simp only [if_true,Bool.true_and]
  congr 1
  by_cases h6:es.length≤6
  ·rw [decide_eq_true h6,decide_eq_true (by omega)]
  ·rw [decide_eq_false h6,decide_eq_false (by omega)]
end Ev
end
section
namespace Ev
open Go
theorem ZuH (a b:Str):hit a b=false↔a≠b∧Zfc b a=false∧Zfc a b=false:=by
 unfold hit
 rw [ZhZ,ZhZ,Bool.or_eq_false_iff,Bool.or_eq_false_iff,beq_eq_false_iff_ne]
theorem Zo0 {es:List Fil} {i:Nat} {e:Fil} (h:e∈es.take i):∃j,j<i∧j<es.length∧es.getD j Fil.z=e:=by
 obtain ⟨j,hj,rfl⟩:=List.getElem_of_mem h
 rw [List.length_take] at hj
 exact ⟨j,by omega,by omega,by rw [Zam (by omega),List.getElem_take]⟩
theorem Zot {es:List Fil} {i j:Nat} (h1:j<i) (h2:j<es.length):es.getD j Fil.z∈es.take i:=by
 rw [Zam h2];exact List.mem_take_iff_getElem.2 ⟨j,by omega,rfl⟩
theorem Zr5 (es:List Fil) (i:Nat):(es.map Prod.fst).getD i []=(es.getD i Fil.z).1:=by
 simp only [List.getD_eq_getElem?_getD,List.getElem?_map]
 cases es[i]?<;>rfl
theorem ZwY (es:List Fil):ZgB es=true↔(∀i,i<es.length→Zcq (es.getD i Fil.z)=true)∧es.length≤6∧∀i j,i<es.length→j<i→(es.getD i Fil.z).1≠(es.getD j Fil.z).1∧Zfc (es.getD j Fil.z).1 (es.getD i Fil.z).1=false∧Zfc (es.getD i Fil.z).1 (es.getD j Fil.z).1=false:=by
 unfold ZgB Zf2
 rw [Bool.and_eq_true,Bool.and_eq_true,List.all_eq_true,List.all_eq_true,decide_eq_true_eq]
 constructor
 ·rintro ⟨h1,h2,h3⟩
  refine ⟨fun i hi=>h1 _ (by rw [Zam hi];exact List.getElem_mem hi),h2,fun i j hi hj=>?_⟩
  have h:=h3 i (List.mem_range.2 (by simpa using hi))
  rw [List.all_eq_true] at h
  have:=h (es.getD j Fil.z).1 (by rw [←List.map_take];exact List.mem_map.2 ⟨_,Zot hj (by omega),rfl⟩)
  rw [Zr5,Bool.not_eq_true',ZuH] at this
  exact this
 ·rintro ⟨h1,h2,h3⟩
  refine ⟨fun e he=>?_,h2,fun i hi=>?_⟩
  ·obtain ⟨i,hi,rfl⟩:=List.getElem_of_mem he
   have:=h1 i hi
   rwa [Zam hi] at this
  ·have hi:i<es.length:=by simpa using List.mem_range.1 hi
   rw [List.all_eq_true]
   intro b hb
   rw [←List.map_take] at hb
   obtain ⟨e,he,rfl⟩:=List.mem_map.1 hb
   obtain ⟨j,hj,_,rfl⟩:=Zo0 he
   rw [Zr5,Bool.not_eq_true',ZuH]
   exact h3 i j hi hj
theorem Zwi (es:List Fil):((List.range es.length).all (ZpG es)&&decide (es.length≤6))=true↔(∀i,i<es.length→Zcq (es.getD i Fil.z)=true)∧es.length≤6∧∀i j,i<es.length→j<i→(es.getD i Fil.z).1≠(es.getD j Fil.z).1∧Zfc (es.getD j Fil.z).1 (es.getD i Fil.z).1=false∧Zfc (es.getD i Fil.z).1 (es.getD j Fil.z).1=false:=by
 rw [Bool.and_eq_true,List.all_eq_true,decide_eq_true_eq]
 have un:∀i,ZpG es i=true→Zcq (es.getD i Fil.z)=true∧ZgV es i (es.getD i Fil.z).1=true∧∀q∈es,Zfc (es.getD i Fil.z).1 q.1=false:=fun i h=>by
  unfold ZpG at h
  rw [Bool.and_eq_true,Bool.and_eq_true,List.all_eq_true] at h
  exact ⟨h.1,h.2.1,fun q hq=>by have:=h.2.2 q hq;rwa [Bool.not_eq_true'] at this⟩
 constructor
 ·rintro ⟨h1,h2⟩
  refine ⟨fun i hi=>(un i (h1 i (List.mem_range.2 hi))).1,h2,fun i j hi hj=>⟨fun e=>?_,?_,?_⟩⟩
  ·have h:=(un i (h1 i (List.mem_range.2 hi))).2.1
   unfold ZgV at h
   rw [List.all_eq_true] at h
   have:=h _ (Zot hj (by omega))
   rw [←e,beq_self_eq_true] at this
   cases this
  ·exact (un j (h1 j (List.mem_range.2 (by omega)))).2.2 _ (by rw [Zam hi];exact List.getElem_mem hi)
  ·exact (un i (h1 i (List.mem_range.2 hi))).2.2 _ (by rw [Zam (by omega:j<es.length)];exact List.getElem_mem _)
 ·rintro ⟨h1,h2,h3⟩
  refine ⟨fun i hi=>?_,h2⟩
  have hi:=List.mem_range.1 hi
  unfold ZpG
  rw [Bool.and_eq_true,Bool.and_eq_true,List.all_eq_true]
  refine ⟨h1 i hi,?_,fun q hq=>?_⟩
  ·unfold ZgV
   rw [List.all_eq_true]
   intro e he
   obtain ⟨j,hj,_,rfl⟩:=Zo0 he
   rw [Bool.not_eq_true',beq_eq_false_iff_ne]
   exact fun e=>(h3 i j hi hj).1 e.symm
  ·obtain ⟨j,hj,rfl⟩:=List.getElem_of_mem hq
   rw [Bool.not_eq_true',←Zam (d:=Fil.z) hj]
   rcases Nat.lt_trichotomy i j with h | h | h
   ·exact (h3 j i hj h).2.1
   ·subst h;exact Zsu _
   ·exact (h3 i j hi h).2.2
theorem Zsr (es:List Fil) (hn:es.length≤1048576) (hx:∀e∈es,e.1.length≤1048576):ZaA es=some (ZgB es):=by
 rw [Zox es hn hx]
 congr 1
 rw [Bool.eq_iff_iff,Zwi,ZwY]
end Ev
end
section
namespace Ev
open Go
def ZhO (l:Str) (a:Nat):Str:=leB 33639248 4++leB 20 2++(l.take 30).drop 4++leB 0 10++leB a 4++(l.take (30+leN l 26 2)).drop 30
def Zca:List Str→Nat→Str
 | [],_=>[]
 | l::r,a=>ZhO l a++Zca r (a+l.length)
def Ztt (many long a:Nat):Str:=leB 101010256 4++leB 0 4++leB many 2++leB many 2++leB long 4++leB a 4++leB 0 2
def Zfd (ls:List Str):Nat:=(ls.map List.length).sum
def Zd6 (ls:List Str):Str:=Zca ls 0++Ztt ls.length (Zca ls 0).length (Zfd ls)
def Zof (l:Str):Prop:=30+leN l 26 2≤l.length∧l.length≤1048576
theorem ZgY (l:Str) (a:Nat) (h:Zof l):(ZhO l a).length=46+leN l 26 2:=by
 have:=h.1
 unfold ZhO
 simp only [List.length_append,ZaG,List.length_drop,List.length_take]
 omega
theorem ZnT (ls:List Str) (h:∀l∈ls,Zof l):∀a,(Zca ls a).length≤1100000*ls.length:=by
 induction ls with
 | nil=>intro a;simp [Zca]
 | cons l r ih=>
  intro a
  have h1:=ZgY l a (h l (by simp))
  have h2:=ih (fun x hx=>h x (by simp [hx])) (a+l.length)
  have:=(h l (by simp)).1
  have:=(h l (by simp)).2
  simp only [Zca,List.length_append,List.length_cons]
  omega
set_option maxRecDepth 100000 in
theorem Zna (ls:List Str) (hn:ls.length≤1000) (hL:∀l∈ls,Zof l):∀(j i:Nat) (heads:Str) (a:Nat),i+j=ls.length→heads.length≤2000000*i→a≤1048576*i→
  Zbx.l0 (j+1) (ls,heads,(a:Int),ls,(ls.length:Int),(i:Int))=some (ls,heads++Zca (ls.drop i) a,((a+Zfd (ls.drop i):Nat):Int))
 | 0,i,heads,a,h,hh,ha=>by
  rw [Zbx.l0.succ];simp only [Zbx.l0.step]
  rw [Za0 (by omega),cond_false,List.drop_eq_nil_of_le (show ls.length≤i by omega)];simp [Zca,Zfd]
 | j+1,i,heads,a,h,hh,ha=>by
  have hi:i<ls.length:=by omega
  have hl:=hL ls[i] (List.getElem_mem hi)
  obtain ⟨hl1,hl2⟩:=hl
  have hc:=ZgY ls[i] a ⟨hl1,hl2⟩
  have n26:=Ze2 ls[i] 26 2 (by omega) (by omega) (by omega) (by omega)
  have m20:=Zb8 20 2 (by omega) (by omega)
  have m0:=Zb8 0 10 (by omega) (by omega)
  have ma:=Zb8 a 4 (by omega) (by omega)
  rw [show ((26:Nat):Int)=26 from rfl,show ((2:Nat):Int)=2 from rfl] at n26
  rw [show ((20:Nat):Int)=20 from rfl,show ((2:Nat):Int)=2 from rfl] at m20
  rw [show ((0:Nat):Int)=0 from rfl,show ((10:Nat):Int)=10 from rfl] at m0
  rw [show ((4:Nat):Int)=4 from rfl] at ma
  have hm:([80,75,1,2]:Str)=leB 33639248 4:=by decide
  have ih:=Zna ls hn hL j (i+1) (heads++ZhO ls[i] a) (a+ls[i].length) (by omega) (by rw [List.length_append];omega) (by omega)
  rw [Zbx.l0.succ];simp only [Zbx.l0.step]
  rw [ZaZ hi,cond_true,Zab _ ZaE,Int.toNat_natCast,show ls.getD i []=ls[i] from Zam hi,n26,m20,m0,ma,hm]
  simp only [Zaa]
  rw [Zaf (n:=30+((leN ls[i] 26 2:Nat):Int)) (by omega) (by omega),show 30+((leN ls[i] 26 2:Nat):Int)=((30+leN ls[i] 26 2:Nat):Int) by omega,Int.toNat_natCast,
   Zaf (n:=(a:Int)+((ls[i].length:Nat):Int)) (by omega) (by omega),show (a:Int)+((ls[i].length:Nat):Int)=((a+ls[i].length:Nat):Int) by omega,Zaf (n:=(i:Int)+1) (by omega) (by omega),show (i:Int)+1=((i+1:Nat):Int) by omega]
  have hcm:((((leB 33639248 4++leB 20 2)++((ls[i].take 30).drop 4))++leB 0 10)++leB a 4)++((ls[i].take (30+leN ls[i] 26 2)).drop 30)=ZhO ls[i] a:=rfl
  have L:∀n k,(leB n k).length=k:=ZaG
  have l1:((ls[i].take 30).drop 4).length=26:=by rw [List.length_drop,List.length_take];omega
  have l2:((ls[i].take (30+leN ls[i] 26 2)).drop 30).length=leN ls[i] 26 2:=by rw [List.length_drop,List.length_take];omega
  rw [Zad (by simp only [L];omega),Zab _ (by simp;omega),Zab _ (by decide),Zad (by simp only [List.length_append,L,l1];omega),Zad (by simp only [List.length_append,L,l1];omega),Zad (by simp only [List.length_append,L,l1];omega),
   Zab _ (by simp;omega),Zab _ (by simp;omega),Zad (by simp only [List.length_append,L,l1,l2];omega),Zad (by rw [hcm,hc];omega),hcm,ih,List.drop_eq_getElem_cons hi]
  simp only [Zca,Zfd,List.map_cons,List.sum_cons,List.append_assoc,Nat.add_assoc]
theorem Zw3 (ls:List Str) (h:∀l∈ls,Zof l):Zfd ls≤1048576*ls.length:=by
 induction ls with
 | nil=>simp [Zfd]
 | cons l r ih=>
  have h1:=(h l (by simp)).2
  have h2:=ih (fun x hx=>h x (by simp [hx]))
  simp only [Zfd,List.map_cons,List.sum_cons,List.length_cons] at h2 ⊢
  omega
theorem Znb (ls:List Str) (hn:ls.length≤1000) (hL:∀l∈ls,Zof l):Zbx ls=some (Zd6 ls):=by
 have h:=Zna ls hn hL ls.length 0 [] 0 (by omega) (by simp) (by omega)
 rw [show ((0:Nat):Int)=0 from rfl,List.drop_zero,List.nil_append,Nat.zero_add] at h
 have hh:=ZnT ls hL 0
 have hs:=Zw3 ls hL
 have n1:=Zb8 ls.length 2 (by omega) (by omega)
 have n2:=Zb8 0 4 (by omega) (by omega)
 have n3:=Zb8 (Zca ls 0).length 4 (by omega) (by omega)
 have n4:=Zb8 (Zfd ls) 4 (by omega) (by omega)
 have n5:=Zb8 0 2 (by omega) (by omega)
 rw [show ((2:Nat):Int)=2 from rfl] at n1
 rw [show ((0:Nat):Int)=0 from rfl,show ((4:Nat):Int)=4 from rfl] at n2
 rw [show ((4:Nat):Int)=4 from rfl] at n3 n4
 rw [show ((0:Nat):Int)=0 from rfl,show ((2:Nat):Int)=2 from rfl] at n5
 have L:∀n k,(leB n k).length=k:=ZaG
 have hm:([80,75,5,6]:Str)=leB 101010256 4:=by decide
 unfold Zbx
 rw [ZaJ,h]
 simp only [Zaa]
 rw [n1,n2,n3,n4,n5,hm]
 simp only [Zaa]
 rw [Zad (by simp only [L];omega),Zad (by simp only [List.length_append,L];omega),Zad (by simp only [List.length_append,L];omega),Zad (by simp only [List.length_append,L];omega),Zad (by simp only [List.length_append,L];omega),
  Zad (by simp only [List.length_append,L];omega),Zad (by simp only [List.length_append,L];omega)]
 unfold Zd6 Ztt
 simp only [List.append_assoc]
end Ev
end
section
namespace Ev
open Go
theorem Ze7 {s:Str} {e:Fil} {n:Nat} (h:ZgN s=some (e,n)):n=30+leN s 26 2+leN s 18 4∧n≤s.length∧e.1=(s.drop 30).take (leN s 26 2):=by
 unfold ZgN at h
 split at h
 ·cases h
 ·split at h
  ·cases h
  ·split at h
   ·cases h
   ·split at h
    ·obtain ⟨rfl,rfl⟩:=Prod.mk.inj (Option.some.inj h)
     exact ⟨rfl,by omega,rfl⟩
    ·cases h
theorem ZnM (s:Str) (n a k:Nat) (h:a+k≤n):leN (s.take n) a k=leN s a k:=by
 unfold leN
 rw [List.drop_take,List.take_take,Nat.min_eq_left (by omega)]
theorem ZqI {s:Str} {e:Fil} {n:Nat} (h:ZgN s=some (e,n)) (hs:s.length≤1048576):Zof (s.take n)∧e.1.length≤1048576:=by
 obtain ⟨h1,h2,h3⟩:=Ze7 h
 refine ⟨⟨?_,by rw [List.length_take];omega⟩,by rw [h3,List.length_take,List.length_drop];omega⟩
 rw [ZnM s n 26 2 (by omega),List.length_take];omega
def Zbo:Nat→Str→List Fil×List Str×Str
 | 0,s=>([],[],s)
 | k+1,s=>match ZgN s with
  | none=>([],[],s)
  | some (e,n)=>(e::(Zbo k (s.drop n)).1,s.take n::(Zbo k (s.drop n)).2.1,(Zbo k (s.drop n)).2.2)
def ZeX (s:Str):Option (List Fil):=if ZgB (Zbo 6 s).1=true∧(Zbo 6 s).2.2=Zd6 (Zbo 6 s).2.1 then some (Zbo 6 s).1 else none
theorem ZkB:∀(k:Nat) (s:Str),s.length≤1048576→(Zbo k s).1.length≤k∧(Zbo k s).2.1.length≤k∧(∀e∈(Zbo k s).1,e.1.length≤1048576)∧∀l∈(Zbo k s).2.1,Zof l
 | 0,s,hs=>by simp [Zbo]
 | k+1,s,hs=>by
  rw [Zbo]
  cases h:ZgN s with
  | none=>simp
  | some p=>
   obtain ⟨e,n⟩:=p
   have h1:=ZqI h hs
   obtain ⟨q1,q2,q3,q4⟩:=ZkB k (s.drop n) (by rw [List.length_drop];omega)
   refine ⟨by simp;omega,by simp;omega,fun x hx=>?_,fun x hx=>?_⟩
   ·rcases List.mem_cons.1 hx with rfl | hx
    ·exact h1.2
    ·exact q3 x hx
   ·rcases List.mem_cons.1 hx with rfl | hx
    ·exact h1.1
    ·exact q4 x hx
theorem Zol:∀(k:Nat) (s:Str) (out:List Fil) (ls:List Str),s.length≤1048576→out.length+k=6→ls.length≤6→
  ls.length=out.length→ZcG.l0 (k+1) (s,out,ls)=some ((Zbo k s).2.2,out++(Zbo k s).1,ls++(Zbo k s).2.1)
 | 0,s,out,ls,hs,h,hl,he=>by
  rw [ZcG.l0.succ];simp only [ZcG.l0.step]
  rw [decide_eq_false (by omega),cond_false];simp [Zbo]
 | k+1,s,out,ls,hs,h,hl,he=>by
  rw [ZcG.l0.succ];simp only [ZcG.l0.step]
  rw [decide_eq_true (by omega),cond_true,ZqG s hs,Zbo]
  simp only [Zaa]
  cases hm:ZgN s with
  | none=>simp [ZwN]
  | some p=>
   obtain ⟨e,n⟩:=p
   have h1:=Ze7 hm
   unfold ZwN
   dsimp only
   rw [Bool.not_true,cond_false,Zad (by simp;omega),Zab _ (by simp;omega),Zad (by simp;omega),Int.toNat_natCast,Zab _ (by simp;omega),
    Zol k (s.drop n) _ _ (by rw [List.length_drop];omega) (by simp;omega) (by simp;omega) (by simp;omega)]
   simp
def zipZ:Option (List Fil)→Bool×List Fil
 | none=>(false,[])
 | some es=>(true,es)
theorem Ztw (s:Str) (hs:s.length≤1048576):ZcG s=some (zipZ (ZeX s)):=by
 have h:=Zol 6 s [] [] hs rfl (by simp) rfl
 obtain ⟨q1,q2,q3,q4⟩:=ZkB 6 s hs
 unfold ZcG
 rw [List.length_nil,show ((6-((0:Nat):Int)).toNat+1)=6+1 from rfl,h]
 simp only [Zaa,List.nil_append]
 rw [Znm _ (by omega) q3]
 simp only [Zaa]
 unfold ZeX
 cases hz:ZgB (Zbo 6 s).1 with
 | false=>
  rw [if_neg (by simp)];rfl
 | true=>
  simp only [Bool.not_true,cond_false]
  rw [Znb _ (by omega) q4]
  simp only [Zaa]
  by_cases hc:(Zbo 6 s).2.2=Zd6 (Zbo 6 s).2.1
  ·rw [if_pos ⟨trivial,hc⟩,hc,beq_self_eq_true];rfl
  ·rw [if_neg (fun q=>hc q.2),beq_false_of_ne hc];rfl
end Ev
end
section
namespace Ev
open Go
theorem ZrL (many long a:Nat) (h1:many≤100000) (h2:long≤1000000000000) (h3:a≤1000000000000):Zgy (many:Int) (long:Int) (a:Int)=some (Ztt many long a):=by
 have n1:=Za7 many 2 (by omega) (by omega)
 have n2:=Za7 0 2 (by omega) (by omega)
 have n3:=Za7 long 4 (by omega) (by omega)
 have n4:=Za7 a 4 (by omega) (by omega)
 have n5:=Za7 101010256 4 (by omega) (by omega)
 rw [show ((2:Nat):Int)=2 from rfl] at n1
 rw [show ((0:Nat):Int)=0 from rfl,show ((2:Nat):Int)=2 from rfl] at n2
 rw [show ((4:Nat):Int)=4 from rfl] at n3 n4
 rw [show ((101010256:Nat):Int)=101010256 from rfl,show ((4:Nat):Int)=4 from rfl] at n5
 have L:∀n k,(leB n k).length=k:=ZaG
 have z:leB 0 4=leB 0 2++leB 0 2:=by decide
 unfold Zgy
 rw [n1,n2,n3,n4,n5]
 simp only [Zaa]
 rw [Zad (by simp only [L];omega),Zad (by simp only [List.length_append,L];omega),Zad (by simp only [List.length_append,L];omega),Zad (by simp only [List.length_append,L];omega),Zad (by simp only [List.length_append,L];omega),
  Zad (by simp only [List.length_append,L];omega),Zad (by simp only [List.length_append,L];omega)]
 unfold Ztt
 rw [z]
 simp only [List.append_assoc]
theorem ZhL (many long a:Nat):(Ztt many long a).length=22:=by
 unfold Ztt;simp only [List.length_append,ZaG]
theorem Zuj {s:Str} (h:leN s 0 4≠67324752):ZgN s=none:=by
 unfold ZgN
 split
 ·rfl
 ·split
  ·rfl
  ·split
   ·rfl
   ·rw [if_neg (fun q=>h q.2.2.2.1)]
theorem ZqM (n k:Nat) (r:Str) (hn:n<256^k):leN (leB n k++r) 0 k=n:=by
 unfold leN
 rw [List.drop_zero,List.take_append_of_le_length (by rw [ZaG];exact Nat.le_refl _),List.take_of_length_le (by rw [ZaG];exact Nat.le_refl _),ZqL,Nat.mod_eq_of_lt hn]
theorem ZlB (ls:List Str) (a m lo at_:Nat):ZgN (Zca ls a++Ztt m lo at_)=none:=by
 apply Zuj
 cases ls with
 | nil=>
  unfold Ztt Zca
  simp only [List.nil_append,List.append_assoc]
  rw [ZqM _ _ _ (by omega)];omega
 | cons l r=>
  unfold Zca ZhO
  simp only [List.append_assoc]
  rw [ZqM _ _ _ (by omega)];omega
end Ev
end
section
namespace Ev
open Go
def sub (s:Str) (i j:Nat):Str:=(s.take j).drop i
def Zhw (s:Str) (h a:Nat):Prop:=h+46+leN s (h+28) 2≤s.length∧a+30+leN s (h+28) 2≤s.length∧
 sub s (h+6) (h+32)=sub s (a+4) (a+30)∧sub s (h+46) (h+(46+leN s (h+28) 2))=sub s (a+30) (a+30+leN s (h+28) 2)∧
 sub s h (h+6)=leB 33639248 4++leB 20 2∧sub s (h+32) (h+46)=leB 0 10++leB a 4
set_option maxRecDepth 100000 in
theorem Zuq (s:Str) (hs:s.length≤1048576) (h a:Nat) (hh:h≤2000000) (ha:a≤2000000) :
  Ret (Zfn s (h:Int) (a:Int)) fun r=>(r.2=true↔Zhw s h a)∧(Zhw s h a→r.1=((46+leN s (h+28) 2:Nat):Int)):=by
 unfold Zfn
 have two:=ZfS s (h+28) 2
 have q:=ZnN s (h+28) 2 (by omega) (by omega) (by omega) (by omega)
 rw [show ((2:Nat):Int)=2 from rfl] at q
 rw [Zaf (n:=(h:Int)+28) (by omega) (by omega),show (h:Int)+28=((h+28:Nat):Int) by omega,q]
 simp only [Zaa]
 by_cases c30:h+28+2≤s.length
 ·rw [if_pos c30,decide_eq_false (show ¬((leN s (h+28) 2:Nat):Int)<0 by omega),cond_false,
   Zaf (n:=46+((leN s (h+28) 2:Nat):Int)) (by omega) (by omega),Zaf (n:=(h:Int)+(46+((leN s (h+28) 2:Nat):Int))) (by omega) (by omega),Zaf (n:=(a:Int)+30) (by omega) (by omega),Zaf (n:=(a:Int)+30+((leN s (h+28) 2:Nat):Int)) (by omega) (by omega)]
  by_cases c1:h+46+leN s (h+28) 2≤s.length
  ·by_cases c2:a+30+leN s (h+28) 2≤s.length
   ·rw [decide_eq_false (by omega),cond_false,decide_eq_false (by omega)]
    simp only [Zaa,cond_false]
    have n1:=Za7 33639248 4 (by omega) (by omega)
    have n2:=Za7 20 2 (by omega) (by omega)
    have n3:=Za7 0 10 (by omega) (by omega)
    have n4:=Za7 a 4 (by omega) (by omega)
    rw [show ((33639248:Nat):Int)=33639248 from rfl,show ((4:Nat):Int)=4 from rfl] at n1
    rw [show ((20:Nat):Int)=20 from rfl,show ((2:Nat):Int)=2 from rfl] at n2
    rw [show ((0:Nat):Int)=0 from rfl,show ((10:Nat):Int)=10 from rfl] at n3
    rw [show ((4:Nat):Int)=4 from rfl] at n4
    rw [n1,n2,n3,n4]
    simp only [Zaa]
    rw [Zaf (n:=(h:Int)+32) (by omega) (by omega),Zaf (n:=(h:Int)+6) (by omega) (by omega),Zaf (n:=(a:Int)+4) (by omega) (by omega),Zaf (n:=(h:Int)+46) (by omega) (by omega)]
    rw [show (h:Int)+32=((h+32:Nat):Int) by omega,show (h:Int)+6=((h+6:Nat):Int) by omega,show (a:Int)+4=((a+4:Nat):Int) by omega,show (h:Int)+46=((h+46:Nat):Int) by omega,show (a:Int)+30+((leN s (h+28) 2:Nat):Int)=((a+30+leN s (h+28) 2:Nat):Int) by omega,
     show (a:Int)+30=((a+30:Nat):Int) by omega,show (h:Int)+(46+((leN s (h+28) 2:Nat):Int))=((h+(46+leN s (h+28) 2):Nat):Int) by omega]
    simp only [Int.toNat_natCast]
    have L:∀n k,(leB n k).length=k:=ZaG
    repeat rw [Zab _ (by simp;omega)]
    repeat rw [Zad (by simp only [L];omega)]
    repeat rw [Zab _ (by simp;omega)]
    repeat rw [Zad (by simp only [L];omega)]
    repeat rw [Zab _ (by simp;omega)]
    have hH:Zhw s h a↔(((sub s (h+6) (h+32)==sub s (a+4) (a+30))=true∧(sub s (h+46) (h+(46+leN s (h+28) 2))==sub s (a+30) (a+30+leN s (h+28) 2))=true)∧
      (sub s h (h+6)==leB 33639248 4++leB 20 2)=true∧(sub s (h+32) (h+46)==leB 0 10++leB a 4)=true):=by
     unfold Zhw
     simp only [beq_iff_eq]
     constructor
     ·rintro ⟨_,_,q1,q2,q3,q4⟩;exact ⟨⟨q1,q2⟩,q3,q4⟩
     ·rintro ⟨⟨q1,q2⟩,q3,q4⟩;exact ⟨c1,c2,q1,q2,q3,q4⟩
    rw [hH]
    unfold sub
    generalize (((s.take (h+32)).drop (h+6))==((s.take (a+30)).drop (a+4)))=b1
    generalize (((s.take (h+(46+leN s (h+28) 2))).drop (h+46))==((s.take (a+30+leN s (h+28) 2)).drop (a+30)))=b2
    generalize (((s.take (h+6)).drop h)==leB 33639248 4++leB 20 2)=b3
    generalize (((s.take (h+46)).drop (h+32))==leB 0 10++leB a 4)=b4
    cases b1<;>cases b2<;>cases b3<;>cases b4<;>refine ⟨(46+((leN s (h+28) 2:Nat):Int),_),rfl,by simp,fun _=>by first | omega | (dsimp only;omega)⟩
   ·rw [decide_eq_false (by omega),cond_false,decide_eq_true (by omega)]
    exact ⟨_,rfl,⟨fun q=>absurd q (by simp),fun q=>absurd q.2.1 c2⟩,fun q=>absurd q.2.1 c2⟩
  ·rw [decide_eq_true (by omega),cond_true]
   exact ⟨_,rfl,⟨fun q=>absurd q (by simp),fun q=>absurd q.1 c1⟩,fun q=>absurd q.1 c1⟩
 ·rw [if_neg c30]
  have hz:¬Zhw s h a:=fun q=>by have:=q.1;omega
  exact ⟨_,rfl,⟨fun q=>absurd q (by simp),fun q=>absurd q hz⟩,fun q=>absurd q hz⟩
end Ev
end
section
namespace Ev
open Go
def Zeb:Nat→Str→Option (List Fil×List Str)
 | 0,_=>some ([],[])
 | k+1,s=>match ZgN s with
  | none=>none
  | some (e,n)=>(Zeb k (s.drop n)).map fun p=>(e::p.1,s.take n::p.2)
theorem ZrK (s:Str) (hs:s.length≤1048576) (K:Nat) (hK:K≤1000):∀(k i a:Nat) (out:List Fil),i+k=K→a≤s.length→out.length=i→
  Ret (Zet.l0 (k+1) (s,(K:Int),(a:Int),(i:Int),out)) fun r=>match Zeb k (s.drop a) with
   | some (es,ls)=>r=.inl (((a+Zfd ls:Nat):Int),out++es)
   | none=>∃a' o',r=.inr (a',false,o')
 | 0,i,a,out,h,ha,ho=>by
  rw [Zet.l0.succ];simp only [Zet.l0.step]
  rw [Za0 (by omega)]
  exact .pure (by simp [Zeb,Zfd])
 | k+1,i,a,out,h,ha,ho=>by
  rw [Zet.l0.succ];simp only [Zet.l0.step]
  obtain ⟨r,er,hp⟩:=Zpk (s.drop a) (by rw [List.length_drop];omega)
  rw [ZaZ (by omega),cond_true,Zab _ (by simp;omega),Int.toNat_natCast,er,Zeb]
  simp only [Zaa]
  unfold Zoc at hp
  cases hm:ZgN (s.drop a) with
  | none=>
   rw [hm] at hp
   dsimp only at hp
   rw [hp]
   exact .pure ⟨_,_,rfl⟩
  | some p=>
   obtain ⟨e,n⟩:=p
   rw [hm] at hp
   have hsp:=Ze7 hm
   rw [List.length_drop] at hsp
   subst hp
   unfold ZwN
   dsimp only
   rw [Bool.not_true,cond_false,Zad (by simp;omega),Zaf (n:=(a:Int)+(n:Int)) (by omega) (by omega),show (a:Int)+(n:Int)=((a+n:Nat):Int) by omega,Zaf (by omega) (by omega),show (i:Int)+1=((i+1:Nat):Int) by omega]
   refine (ZrK s hs K hK k (i+1) (a+n) _ (by omega) (by omega) (by simp;omega)).mono ?_
   intro r hr
   rw [List.drop_drop]
   cases hk:Zeb k (s.drop (a+n)) with
   | none=>rw [hk] at hr;exact hr
   | some q=>
    obtain ⟨es,ls⟩:=q
    rw [hk] at hr
    dsimp only [Option.map_some]
    have hln:((s.drop a).take n).length=n:=by rw [List.length_take,List.length_drop];omega
    rw [hr]
    simp [Zfd,hln,Nat.add_assoc]
end Ev
end
section
namespace Ev
open Go
theorem Zhj (s:Str) (i j:Nat):sub s i j=(s.drop i).take (j-i):=by unfold sub;rw [List.drop_take]
theorem ZfK (s:Str) {i j k:Nat} (h1:i≤j) (h2:j≤k):sub s i k=sub s i j++sub s j k:=by
 rw [Zhj,Zhj,Zhj,show k-i=(j-i)+(k-j) by omega,List.take_add,List.drop_drop,show i+(j-i)=j by omega]
theorem ZiI (s:Str) {i j p q:Nat} (h:i+p+q≤j):((sub s i j).drop p).take q=sub s (i+p) (i+p+q):=by
 rw [Zhj,Zhj,List.drop_take,List.take_take,List.drop_drop,Nat.min_eq_left (by omega),show i+p+q-(i+p)=q by omega]
theorem Zc0 (s:Str) {i j:Nat} (h1:i≤j) (h2:j≤s.length):(sub s i j).length=j-i:=by
 rw [Zhj,List.length_take,List.length_drop];omega
theorem Zi1 (s:Str) (a k:Nat):leN s a k=leV (sub s a (a+k)):=by
 unfold leN;rw [Zhj,show a+k-a=k by omega]
theorem Zj5 (s:Str) (a b k:Nat):leN (s.drop a) b k=leN s (a+b) k:=by
 unfold leN;rw [List.drop_drop]
theorem Zjm (s:Str) (a n:Nat) (hn:30+leN s (a+26) 2≤n) :
  ZhO ((s.drop a).take n) a=(leB 33639248 4++leB 20 2)++(sub s (a+4) (a+30)++((leB 0 10++leB a 4)++sub s (a+30) (a+30+leN s (a+26) 2))):=by
 have e:leN ((s.drop a).take n) 26 2=leN s (a+26) 2:=by rw [ZnM _ _ _ _ (by omega),Zj5]
 unfold ZhO
 rw [e]
 have p1:(((s.drop a).take n).take 30).drop 4=sub s (a+4) (a+30):=by
  rw [List.take_take,Nat.min_eq_left (by omega),List.drop_take,List.drop_drop,Zhj,show a+30-(a+4)=30-4 by omega]
 have p2:(((s.drop a).take n).take (30+leN s (a+26) 2)).drop 30=sub s (a+30) (a+30+leN s (a+26) 2):=by
  rw [List.take_take,Nat.min_eq_left (by omega),List.drop_take,List.drop_drop,Zhj];congr 1;omega
 rw [p1,p2]
 simp only [List.append_assoc]
theorem ZuJ (s:Str) (a h n:Nat) (hn:30+leN s (a+26) 2≤n) (ha:a+n≤s.length) :
  Zhw s h a↔(s.drop h).take (46+leN s (a+26) 2)=ZhO ((s.drop a).take n) a:=by
 have L:∀n k,(leB n k).length=k:=ZaG
 rw [Zjm s a n hn]
 have e0:(s.drop h).take (46+leN s (a+26) 2)=sub s h (h+(46+leN s (a+26) 2)):=by
  rw [Zhj];congr 1;omega
 constructor
 ·rintro ⟨h1,h2,q1,q2,q3,q4⟩
  have e:leN s (h+28) 2=leN s (a+26) 2:=by
   rw [Zi1,Zi1]
   have r1:=ZiI s (i:=h+6) (j:=h+32) (p:=22) (q:=2) (by omega)
   have r2:=ZiI s (i:=a+4) (j:=a+30) (p:=22) (q:=2) (by omega)
   rw [q1,r2] at r1
   rw [show h+6+22=h+28 by omega,show a+4+22=a+26 by omega] at r1
   rw [r1]
  rw [e] at h1 h2 q2
  rw [e0,ZfK s (i:=h) (j:=h+6) (by omega) (by omega),ZfK s (i:=h+6) (j:=h+32) (by omega) (by omega),ZfK s (i:=h+32) (j:=h+46) (by omega) (by omega),q1,q2,q3,q4]
 ·intro q
  have hl:((s.drop h).take (46+leN s (a+26) 2)).length=46+leN s (a+26) 2:=by
   rw [q]
   simp only [List.length_append,L]
   rw [Zc0 s (by omega) (by omega),Zc0 s (by omega) (by omega)]
   omega
  rw [List.length_take,List.length_drop] at hl
  have hb:h+46+leN s (a+26) 2≤s.length:=by omega
  rw [e0,ZfK s (i:=h) (j:=h+6) (by omega) (by omega),ZfK s (i:=h+6) (j:=h+32) (by omega) (by omega),ZfK s (i:=h+32) (j:=h+46) (by omega) (by omega)] at q
  obtain ⟨q3,q⟩:=List.append_inj q (by rw [Zc0 s (by omega) (by omega)];simp only [List.length_append,L];omega)
  obtain ⟨q1,q⟩:=List.append_inj q (by rw [Zc0 s (by omega) (by omega),Zc0 s (by omega) (by omega)];omega)
  obtain ⟨q4,q2⟩:=List.append_inj q (by rw [Zc0 s (by omega) (by omega)];simp only [List.length_append,L];omega)
  have e:leN s (h+28) 2=leN s (a+26) 2:=by
   rw [Zi1,Zi1]
   have r1:=ZiI s (i:=h+6) (j:=h+32) (p:=22) (q:=2) (by omega)
   have r2:=ZiI s (i:=a+4) (j:=a+30) (p:=22) (q:=2) (by omega)
   rw [q1,r2] at r1
   rw [show h+6+22=h+28 by omega,show a+4+22=a+26 by omega] at r1
   rw [r1]
  unfold Zhw
  rw [e]
  exact ⟨hb,by omega,q1,q2,q3,q4⟩
def Zg2 (s:Str):List Str→Nat→Nat→Prop
 | [],_,_=>True
 | l::r,h,a=>Zhw s h a∧Zg2 s r (h+(46+leN l 26 2)) (a+l.length)
theorem Zou {α:Type} (x p q:List α):x.take (p.length+q.length)=p++q↔x.take p.length=p∧(x.drop p.length).take q.length=q:=by
 rw [List.take_add]
 constructor
 ·intro e
  by_cases h:p.length≤x.length
  ·exact List.append_inj e (by rw [List.length_take];omega)
  ·have h1:=congrArg List.length e
   simp only [List.length_append,List.length_take,List.length_drop] at h1
   omega
 ·rintro ⟨e1,e2⟩;rw [e1,e2]
theorem Zpc {s:Str} {a n:Nat} {e:Fil} (h:ZgN (s.drop a)=some (e,n)):30+leN s (a+26) 2≤n∧n≤s.length-a∧((s.drop a).take n).length=n∧leN ((s.drop a).take n) 26 2=leN s (a+26) 2:=by
 obtain ⟨h1,h2,h3⟩:=Ze7 h
 rw [List.length_drop] at h2
 rw [Zj5] at h1
 refine ⟨by omega,h2,by rw [List.length_take,List.length_drop];omega,by rw [ZnM _ _ _ _ (by omega),Zj5]⟩
theorem ZoI:∀(k:Nat) (s:Str) {es:List Fil} {ls:List Str},Zeb k s=some (es,ls)→ls.length=k∧es.length=k
 | 0,s,es,ls,h=>by
  obtain ⟨rfl,rfl⟩:=Prod.mk.inj (Option.some.inj h);exact ⟨rfl,rfl⟩
 | k+1,s,es,ls,h=>by
  rw [Zeb] at h
  cases hm:ZgN s with
  | none=>rw [hm] at h;cases h
  | some p=>
   obtain ⟨e,n⟩:=p
   rw [hm] at h
   dsimp only at h
   cases hk:Zeb k (s.drop n) with
   | none=>rw [hk] at h;cases h
   | some q=>
    rw [hk] at h
    obtain ⟨rfl,rfl⟩:=Prod.mk.inj (Option.some.inj h)
    have:=ZoI k (s.drop n) (es:=q.1) (ls:=q.2) hk
    simp [this.1,this.2]
theorem ZpB (s:Str):∀(k:Nat) (a h:Nat) {es:List Fil} {ls:List Str},a≤s.length→Zeb k (s.drop a)=some (es,ls)→
  (Zg2 s ls h a↔(s.drop h).take (Zca ls a).length=Zca ls a)
 | 0,a,h,es,ls,ha,hr=>by
  obtain ⟨rfl,rfl⟩:=Prod.mk.inj (Option.some.inj hr)
  simp [Zg2,Zca]
 | k+1,a,h,es,ls,ha,hr=>by
  rw [Zeb] at hr
  cases hm:ZgN (s.drop a) with
  | none=>rw [hm] at hr;cases hr
  | some p=>
   obtain ⟨e,n⟩:=p
   rw [hm] at hr
   dsimp only at hr
   obtain ⟨h1,h2,h3,h4⟩:=Zpc hm
   rw [List.drop_drop] at hr
   cases hk:Zeb k (s.drop (a+n)) with
   | none=>rw [hk] at hr;cases hr
   | some q=>
    obtain ⟨es',ls'⟩:=q
    rw [hk] at hr
    obtain ⟨rfl,rfl⟩:=Prod.mk.inj (Option.some.inj hr)
    have hc:(ZhO ((s.drop a).take n) a).length=46+leN s (a+26) 2:=by
     rw [Zjm s a n h1]
     simp only [List.length_append,ZaG]
     rw [Zc0 s (by omega) (by omega),Zc0 s (by omega) (by omega)]
     omega
    have ih:=ZpB s k (a+n) (h+(46+leN s (a+26) 2)) (by omega) hk
    unfold Zg2 Zca
    rw [h3,h4,ZuJ s a h n h1 (by omega),ih,List.length_append,Zou,hc,List.drop_drop]
theorem ZjB:∀(K:Nat) (s:Str),Zeb (Zbo K s).2.1.length s=some ((Zbo K s).1,(Zbo K s).2.1)∧(Zbo K s).2.2=s.drop (Zfd (Zbo K s).2.1)
 | 0,s=>by simp [Zbo,Zeb,Zfd]
 | K+1,s=>by
  cases hm:ZgN s with
  | none=>simp [Zbo,hm,Zeb,Zfd]
  | some p=>
   obtain ⟨e,n⟩:=p
   obtain ⟨h1,h2⟩:=ZjB K (s.drop n)
   obtain ⟨_,hn,_⟩:=Ze7 hm
   have e1:Zbo (K+1) s=(e::(Zbo K (s.drop n)).1,s.take n::(Zbo K (s.drop n)).2.1,(Zbo K (s.drop n)).2.2):=by rw [Zbo,hm]
   rw [e1]
   dsimp only
   rw [List.length_cons,Zeb,hm]
   dsimp only
   rw [h1]
   refine ⟨rfl,?_⟩
   rw [h2,List.drop_drop]
   simp only [Zfd,List.map_cons,List.sum_cons,List.length_take]
   congr 1;omega
theorem ZjC:∀(k:Nat) (s:Str) {es:List Fil} {ls:List Str},Zeb k s=some (es,ls)→∀K,k≤K→ZgN (s.drop (Zfd ls))=none→Zbo K s=(es,ls,s.drop (Zfd ls))
 | 0,s,es,ls,h,K,hK,hs=>by
  obtain ⟨rfl,rfl⟩:=Prod.mk.inj (Option.some.inj h)
  have hs:ZgN s=none:=by simpa [Zfd] using hs
  cases K with
  | zero=>simp [Zbo,Zfd]
  | succ K=>simp [Zbo,hs,Zfd]
 | k+1,s,es,ls,h,K,hK,hs=>by
  rw [Zeb] at h
  cases hm:ZgN s with
  | none=>rw [hm] at h;cases h
  | some p=>
   obtain ⟨e,n⟩:=p
   rw [hm] at h
   dsimp only at h
   cases hk:Zeb k (s.drop n) with
   | none=>rw [hk] at h;cases h
   | some q=>
    obtain ⟨es',ls'⟩:=q
    rw [hk] at h
    obtain ⟨rfl,rfl⟩:=Prod.mk.inj (Option.some.inj h)
    obtain ⟨_,hn,_⟩:=Ze7 hm
    have es1:Zfd (s.take n::ls')=n+Zfd ls':=by
     simp only [Zfd,List.map_cons,List.sum_cons,List.length_take];omega
    obtain ⟨K,rfl⟩:∃K',K=K'+1:=⟨K-1,by omega⟩
    have ih:=ZjC k (s.drop n) hk K (by omega) (by rw [List.drop_drop,←es1];exact hs)
    rw [Zbo,hm]
    dsimp only
    rw [ih,List.drop_drop,es1]
def ZtI (s:Str):Option (List Fil):=
 if s.length<12 then none else if 6<leN s (s.length-12) 2 then none else
  match Zeb (leN s (s.length-12) 2) s with
  | none=>none
  | some (es,ls)=>if ZgB es=true∧s.drop (Zfd ls)=Zd6 ls then some es else none
theorem Zph (x y:Str) (b k:Nat):leN (x++y) (x.length+b) k=leN y b k:=by
 unfold leN;rw [←List.drop_drop,List.drop_left]
theorem ZuY (many long a:Nat) (h:many<65536):leN (Ztt many long a) 10 2=many:=by
 have e:Ztt many long a=(leB 101010256 4++leB 0 4++leB many 2)++(leB many 2++(leB long 4++leB a 4++leB 0 2)):=by unfold Ztt;simp only [List.append_assoc]
 have:=Zph (leB 101010256 4++leB 0 4++leB many 2) (leB many 2++(leB long 4++leB a 4++leB 0 2)) 0 2
 simp only [List.length_append,ZaG] at this
 rw [e,this,ZqM _ _ _ (by omega)]
theorem Zvw (s:Str) (hs:s.length≤1048576):ZtI s=ZeX s:=by
 by_cases H:ZgB (Zbo 6 s).1=true∧(Zbo 6 s).2.2=Zd6 (Zbo 6 s).2.1
 ·obtain ⟨h1,h2⟩:=ZjB 6 s
  obtain ⟨_,q2,_,_⟩:=ZkB 6 s hs
  unfold ZeX
  rw [if_pos H]
  obtain ⟨H1,H2⟩:=H
  rw [h2] at H2
  have hl:=congrArg List.length H2
  unfold Zd6 at hl
  rw [List.length_drop,List.length_append,ZhL] at hl
  have hm:leN s (s.length-12) 2=(Zbo 6 s).2.1.length:=by
   have e:s.length-12=Zfd (Zbo 6 s).2.1+((Zca (Zbo 6 s).2.1 0).length+10):=by omega
   rw [e,←Zj5,H2]
   unfold Zd6
   rw [Zph,ZuY _ _ _ (by omega)]
  unfold ZtI
  rw [if_neg (by omega),hm,if_neg (by omega),h1]
  dsimp only
  rw [if_pos ⟨H1,H2⟩]
 ·unfold ZeX
  rw [if_neg H]
  unfold ZtI
  split
  ·rfl
  ·split
   ·rfl
   ·cases hk:Zeb (leN s (s.length-12) 2) s with
    | none=>rfl
    | some q=>
     obtain ⟨es,ls⟩:=q
     dsimp only
     split
     ·rename_i h6 hc
      exfalso
      have:=ZjC _ s hk 6 (by omega) (by rw [hc.2];exact ZlB _ _ _ _ _)
      rw [this] at H
      exact H hc
     ·rfl
end Ev
end
section
namespace Ev
open Go
theorem ZpC {s:Str} {h a:Nat} (q:Zhw s h a):leN s (h+28) 2=leN s (a+26) 2:=by
 obtain ⟨h1,h2,q1,_⟩:=q
 rw [Zi1,Zi1]
 have r1:=ZiI s (i:=h+6) (j:=h+32) (p:=22) (q:=2) (by omega)
 have r2:=ZiI s (i:=a+4) (j:=a+30) (p:=22) (q:=2) (by omega)
 rw [q1,r2] at r1
 rw [show h+6+22=h+28 by omega,show a+4+22=a+26 by omega] at r1
 rw [r1]
theorem ZhW (s:Str) (hs:s.length≤1048576) (K:Nat) (hK:K≤1000) (at_:Int) (list:List Fil):∀(k i a h:Nat) {es:List Fil} {ls:List Str},i+k=K→a≤s.length→h≤s.length→Zeb k (s.drop a)=some (es,ls)→
  Ret (ZaS.l0 (k+1) (s,(K:Int),at_,(h:Int),(a:Int),(i:Int),list)) fun r=>
   (Zg2 s ls h a→r=.inl (s,(K:Int),at_,((h+(Zca ls a).length:Nat):Int),list)∧h+(Zca ls a).length≤s.length)∧(¬Zg2 s ls h a→r=.inr (false,[]))
 | 0,i,a,h,es,ls,hi,ha,hh,hr=>by
  obtain ⟨rfl,rfl⟩:=Prod.mk.inj (Option.some.inj hr)
  rw [ZaS.l0.succ];simp only [ZaS.l0.step]
  rw [Za0 (by omega)]
  exact .pure ⟨fun _=>⟨by simp [Zca],by simpa [Zca] using hh⟩,fun q=>absurd trivial q⟩
 | k+1,i,a,h,es,ls,hi,ha,hh,hr=>by
  rw [Zeb] at hr
  cases hm:ZgN (s.drop a) with
  | none=>rw [hm] at hr;cases hr
  | some p=>
   obtain ⟨e,n⟩:=p
   rw [hm] at hr
   dsimp only at hr
   obtain ⟨h1,h2,h3,h4⟩:=Zpc hm
   rw [List.drop_drop] at hr
   cases hk:Zeb k (s.drop (a+n)) with
   | none=>rw [hk] at hr;cases hr
   | some q=>
    obtain ⟨es',ls'⟩:=q
    rw [hk] at hr
    obtain ⟨rfl,rfl⟩:=Prod.mk.inj (Option.some.inj hr)
    have hc:(ZhO ((s.drop a).take n) a).length=46+leN s (a+26) 2:=by
     rw [Zjm s a n h1]
     simp only [List.length_append,ZaG]
     rw [Zc0 s (by omega) (by omega),Zc0 s (by omega) (by omega)]
     omega
    rw [ZaS.l0.succ];simp only [ZaS.l0.step]
    rw [ZaZ (by omega),cond_true]
    refine .bind (Zuq s hs h a (by omega) (by omega)) ?_
    rintro ⟨r3,r4⟩ ⟨g1,g2⟩
    dsimp only at g1 g2 ⊢
    cases r4 with
    | false=>
     have hn:¬Zhw s h a:=fun q=>by have:=g1.2 q;cases this
     exact .pure ⟨fun q=>absurd q.1 hn,fun _=>rfl⟩
    | true=>
     have hH:=g1.1 rfl
     have g2:=g2 hH
     rw [ZpC hH] at g2
     have hb:=hH.1
     rw [ZpC hH] at hb
     subst g2
     rw [Bool.not_true,cond_false,Zab _ (by simp;omega),Int.toNat_natCast]
     obtain ⟨r,er,hp⟩:=Zpk (s.drop a) (by rw [List.length_drop];omega)
     unfold Zoc at hp
     rw [hm] at hp
     dsimp only at hp
     subst hp
     rw [er]
     unfold ZwN
     dsimp only
     simp only [Zaa]
     have two:=ZfS s (a+26) 2
     rw [Zaf (n:=(h:Int)+((46+leN s (a+26) 2:Nat):Int)) (by omega) (by omega),Zaf (n:=(a:Int)+(n:Int)) (by omega) (by omega),Zaf (n:=(i:Int)+1) (by omega) (by omega),
      show (h:Int)+((46+leN s (a+26) 2:Nat):Int)=((h+(46+leN s (a+26) 2):Nat):Int) by omega,show (a:Int)+(n:Int)=((a+n:Nat):Int) by omega,show (i:Int)+1=((i+1:Nat):Int) by omega]
     refine (ZhW s hs K hK at_ list k (i+1) (a+n) (h+(46+leN s (a+26) 2)) (by omega) (by omega) (by omega) hk).mono ?_
     rintro r ⟨f1,f2⟩
     unfold Zg2 Zca
     rw [h3,h4,List.length_append,hc]
     refine ⟨fun q=>?_,fun q=>f2 fun q'=>q ⟨hH,q'⟩⟩
     obtain ⟨f,f'⟩:=f1 q.2
     exact ⟨by rw [f,Nat.add_assoc],by omega⟩
theorem ZoH:∀(k:Nat) (s:Str) {es:List Fil} {ls:List Str},Zeb k s=some (es,ls)→Zfd ls≤s.length∧(s.length≤1048576→∀e∈es,e.1.length≤1048576)∧(s.length≤1048576→∀l∈ls,Zof l)
 | 0,s,es,ls,h=>by
  obtain ⟨rfl,rfl⟩:=Prod.mk.inj (Option.some.inj h);simp [Zfd]
 | k+1,s,es,ls,h=>by
  rw [Zeb] at h
  cases hm:ZgN s with
  | none=>rw [hm] at h;cases h
  | some p=>
   obtain ⟨e,n⟩:=p
   rw [hm] at h
   dsimp only at h
   cases hk:Zeb k (s.drop n) with
   | none=>rw [hk] at h;cases h
   | some q=>
    obtain ⟨es',ls'⟩:=q
    rw [hk] at h
    obtain ⟨rfl,rfl⟩:=Prod.mk.inj (Option.some.inj h)
    obtain ⟨i1,i2,i3⟩:=ZoH k (s.drop n) hk
    obtain ⟨_,hn,_⟩:=Ze7 hm
    rw [List.length_drop] at i1 i2 i3
    refine ⟨?_,fun hs=>?_,fun hs=>?_⟩
    ·simp only [Zfd,List.map_cons,List.sum_cons,List.length_take] at i1 ⊢;omega
    ·intro x hx
     rcases List.mem_cons.1 hx with rfl | hx
     ·exact (ZqI hm hs).2
     ·exact i2 (by omega) x hx
    ·intro x hx
     rcases List.mem_cons.1 hx with rfl | hx
     ·exact (ZqI hm hs).1
     ·exact i3 (by omega) x hx
theorem Znw (s:Str) (hs:s.length≤1048576):ZaS s=some (zipZ (ZtI s)):=by
 unfold ZaS ZtI
 by_cases c12:s.length<12
 ·have e:ZbR s (w64 ((s.length:Int)-12)) 2=some (-1):=by
   rw [Zaf (by omega) (by omega)]
   unfold ZbR
   rw [decide_eq_true (by omega)];rfl
  rw [e,if_pos c12]
  rfl
 rw [if_neg c12,Zaf (n:=(s.length:Int)-12) (by omega) (by omega),show (s.length:Int)-12=((s.length-12:Nat):Int) by omega]
 have q:=ZnN s (s.length-12) 2 (by omega) (by omega) (by omega) (by omega)
 rw [show ((2:Nat):Int)=2 from rfl,if_pos (by omega)] at q
 have two:=ZfS s (s.length-12) 2
 rw [q]
 simp only [Zaa]
 generalize leN s (s.length-12) 2=m at two
 rw [Zj6]
 simp only [Zaa]
 by_cases c6:6<m
 ·rw [if_pos c6,decide_eq_false (by omega)];rfl
 rw [if_neg c6,decide_eq_true (by omega),Bool.not_true,cond_false]
 obtain ⟨r,er,hr⟩:=ZrK s hs m (by omega) m 0 0 [] (by omega) (by omega) rfl
 rw [show ((0:Nat):Int)=0 from rfl] at er
 rw [List.drop_zero] at hr
 unfold Zet
 rw [ZaJ,er]
 simp only [Zaa]
 cases hk:Zeb m s with
 | none=>
  rw [hk] at hr
  dsimp only at hr
  obtain ⟨a',o',rfl⟩:=hr
  rfl
 | some p=>
  obtain ⟨es,ls⟩:=p
  rw [hk] at hr
  dsimp only at hr
  subst hr
  obtain ⟨i1,i2,i3⟩:=ZoH m s hk
  obtain ⟨n1,n2⟩:=ZoI m s hk
  dsimp only
  simp only [Zaa,Nat.zero_add,List.nil_append,Bool.not_true,cond_false]
  rw [Zsr es (by omega) (i2 hs)]
  simp only [Zaa]
  cases hz:ZgB es with
  | false=>rw [if_neg (by simp)];rfl
  | true=>
   simp only [Bool.not_true,cond_false]
   obtain ⟨r,er,h1,h2⟩:=ZhW s hs m (by omega) ((Zfd ls:Nat):Int) es m 0 0 (Zfd ls) (by omega) (by omega) i1 (by rw [List.drop_zero];exact hk)
   rw [show ((0:Nat):Int)=0 from rfl] at er
   rw [er]
   simp only [Zaa]
   have hi:=ZpB s m 0 (Zfd ls) (Nat.zero_le _) (by rw [List.drop_zero];exact hk)
   by_cases hH:Zg2 s ls (Zfd ls) 0
   ·obtain ⟨rfl,hle⟩:=h1 hH
    have hH':=hi.1 hH
    dsimp only
    rw [Zab _ (by simp;omega),Zaf (by omega) (by omega),show (((Zfd ls+(Zca ls 0).length:Nat):Int)-((Zfd ls:Nat):Int))=(((Zca ls 0).length:Nat):Int) by omega,Int.toNat_natCast,ZrL m _ _ (by omega) (by omega) (by omega)]
    simp only [Zaa]
    have key:s.drop (Zfd ls)=Zd6 ls↔s.drop (Zfd ls+(Zca ls 0).length)=Ztt m (Zca ls 0).length (Zfd ls):=by
     unfold Zd6
     rw [n1,←List.drop_drop]
     constructor
     ·intro e;rw [e,List.drop_left' rfl]
     ·intro e
      rw [←List.take_append_drop (Zca ls 0).length (s.drop (Zfd ls)),hH',e]
    by_cases hc:s.drop (Zfd ls)=Zd6 ls
    ·rw [if_pos ⟨trivial,hc⟩,key.1 hc,beq_self_eq_true];rfl
    ·rw [if_neg (fun q=>hc q.2),beq_false_of_ne (fun q=>hc (key.2 q))];rfl
   ·obtain rfl:=h2 hH
    have hc:¬s.drop (Zfd ls)=Zd6 ls:=fun q=>hH (hi.2 (by rw [q];unfold Zd6;rw [List.take_left' rfl]))
    rw [if_neg (fun q=>hc q.2)]
    rfl
theorem Znx (s:Str) (hs:s.length≤1048576):ZaS s=some (zipZ (ZeX s)):=by rw [Znw s hs,Zvw s hs]
def ZjU (s:Str):Bool:=(ZeX s).isSome
theorem Zng (s:Str) (hs:s.length≤1048576):Zc5 s=some (ZjU s):=by
 unfold Zc5 ZjU
 rw [Ztw s hs]
 cases ZeX s<;>rfl
theorem ZrI (s:Str) (hs:s.length≤1048576):Zgx s=some (ZjU s):=by
 unfold Zgx ZjU
 rw [Znx s hs]
 cases ZeX s<;>rfl
def Zn7 (text log:Str):Bool:=ZjU text&&(log==[])
theorem ZpW (text log:Str) (hs:text.length≤1048576):Zd5 text log=some (Zn7 text log):=by
 unfold Zd5 Zn7
 rw [Zng text hs]
 cases ZjU text<;>rfl
theorem ZnB (text log:Str) (hs:text.length≤1048576):Zb2 text log=some (Zn7 text log):=by
 unfold Zb2 Zn7
 rw [ZrI text hs]
 cases ZjU text<;>rfl
end Ev
end
section
namespace Ev
open Go
def Tk.Pos (ls ds:List Nat):Tk→Prop
 | .lit c=>c<ls.length∧0<ls.getD c 0
 | .far l k=>(257+ZbG Zay l<ls.length∧0<ls.getD (257+ZbG Zay l) 0)∧ZbG ZaL k<ds.length∧0<ds.getD (ZbG ZaL k) 0
theorem ZfO (ns:List Nat) (hk:Zbm ns≤32768) (h15:∀n∈ns,n≤15) (i:Nat) (hi:i<ns.length) (h0:0<ns.getD i 0) (rest:List Bool):ZjI ns (some (ZhS ns i++rest))=some (i,rest):=by
 rw [Zw2 ns h15 i hi h0];exact Zud ns hk h15 i hi h0 rest
theorem Zek (k n:Nat) (rest:List Bool):Zby k (some (ZbB n k++rest))=some rest:=by
 unfold Zby
 dsimp only
 rw [if_pos (by rw [List.length_append,Zai];omega),List.drop_left' (Zai n k)]
theorem Zdv (k n:Nat) (hn:n<2^k) (rest:List Bool):Zb6 ((ZbB n k++rest).take k)=n:=by
 rw [List.take_left' (Zai n k),Zki,Nat.mod_eq_of_lt hn]
theorem Zuh (ds:List Nat) (hkd:Zbm ds≤32768) (hd:∀n∈ds,n≤15) (go:List Bool→List Int→Option (List Bool×List Int)) (l k:Nat) (h:(Tk.far l k).Ok)
  (hp:ZbG ZaL k<ds.length∧0<ds.getD (ZbG ZaL k) 0) (out o:List Int) (rest:List Bool) (hf:Zoh out l k=some o) :
  ZmE ds go (ZbG Zay l) (ZbB (l-Zay.getD (ZbG Zay l) 0) (Zb9.getD (ZbG Zay l) 0)++(ZhS ds (ZbG ZaL k)++(ZbB (k-ZaL.getD (ZbG ZaL k) 0) (ZcN.getD (ZbG ZaL k) 0)++rest))) out=go rest o:=by
 obtain ⟨h1,h2,h3,h4⟩:=h
 obtain ⟨_,_,a1,a2,a3⟩:=ZeI l h1 h2
 obtain ⟨_,_,b1,b2,b3⟩:=Zfg k h3 h4
 unfold ZmE
 rw [Zek,ZfO ds hkd hd _ hp.1 hp.2]
 dsimp only
 rw [if_neg (by omega),Zek]
 dsimp only
 rw [Zdv _ _ a3,Zdv _ _ b3,show Zay.getD (ZbG Zay l) 0+(l-Zay.getD (ZbG Zay l) 0)=l by omega,show ZaL.getD (ZbG ZaL k) 0+(k-ZaL.getD (ZbG ZaL k) 0)=k by omega,hf]
theorem ZkP (ls ds:List Nat) (hkl:Zbm ls≤32768) (hkd:Zbm ds≤32768) (hl:∀n∈ls,n≤15) (hd:∀n∈ds,n≤15) (he:256<ls.length∧0<ls.getD 256 0) (s:Str) (hs:s.length≤300) (rest:List Bool) :
  ∀(F a f:Nat),a≤s.length→s.length≤a+F→(Zep s F a).length<f→(∀t∈Zep s F a,t.Pos ls ds)→ZrA ls ds f (ZeZ ls ds (Zep s F a)++rest) (ints (s.take a))=some (rest,ints s)
 | 0,a,f,ha,hF,hf,hp=>by
  obtain ⟨f',rfl⟩:∃f',f=f'+1:=⟨f-1,by omega⟩
  rw [ZfN]
  unfold Zo2
  rw [if_neg (by rw [Zdi,List.length_take];omega)]
  simp only [Zep,ZeZ]
  rw [ZfO ls hkl hl 256 he.1 he.2]
  dsimp only
  rw [if_pos rfl,List.take_of_length_le (by omega)]
 | F+1,a,f,ha,hF,hf,hp=>by
  obtain ⟨f',rfl⟩:∃f',f=f'+1:=⟨f-1,by omega⟩
  by_cases c:a<s.length
  ·have e:Zep s (F+1) a=Ziz s a::Zep s F (a+(Ziz s a).long):=by rw [Zep,if_pos c]
   have hok:=Zj0 s (F+1) a ha
   rw [e] at hf hp hok ⊢
   have hp0:=hp _ (List.mem_cons_self ..)
   have hp1:∀t∈Zep s F (a+(Ziz s a).long),t.Pos ls ds:=fun t ht=>hp t (List.mem_cons_of_mem _ ht)
   have hok0:=hok _ (List.mem_cons_self ..)
   rw [List.length_cons] at hf
   have hlong:=Zko s a
   rw [ZfN]
   unfold Zo2
   rw [if_neg (by rw [Zdi,List.length_take];omega),ZeZ]
   cases ht:Ziz s a with
   | lit ch=>
    have hch:=Zrg ht
    rw [ht] at hp0 hok0 hf hp1
    have hlt:ch<256:=hok0
    simp only [Zog,List.append_assoc]
    rw [ZfO ls hkl hl ch hp0.1 hp0.2]
    dsimp only
    rw [if_neg (by omega),if_pos hlt]
    have ih:=ZkP ls ds hkl hkd hl hd he s hs rest F (a+1) f' (by omega) (by omega) (by simpa [Tk.long] using hf) (by simpa [Tk.long] using hp1)
    have e1:ints (s.take (a+1))=ints (s.take a)++[(ch:Int)]:=by
     rw [ZiG s a 0 c,Zk6,hch];rfl
    rw [←e1]
    exact ih
   | far l k=>
    obtain ⟨g1,g2,g3,g4,g5,g6⟩:=Zrh ht ha
    rw [ht] at hp0 hok0 hf hp1
    obtain ⟨⟨q1,q2⟩,q3,q4⟩:=hp0
    obtain ⟨_,_,a1,_,_⟩:=ZeI l g1 g2
    simp only [Zog,List.append_assoc]
    rw [ZfO ls hkl hl _ q1 q2]
    dsimp only
    rw [if_neg (by omega),if_neg (by omega),if_neg (by omega),Nat.add_sub_cancel_left,Zuh ds hkd hd _ l k hok0 ⟨q3,q4⟩ _ _ _ g6]
    exact ZkP ls ds hkl hkd hl hd he s hs rest F (a+l) f' (by omega) (by omega) (by simpa [Tk.long] using hf) (by simpa [Tk.long] using hp1)
  ·have e:Zep s (F+1) a=[]:=by rw [Zep,if_neg c]
   rw [e,ZfN]
   unfold Zo2
   rw [if_neg (by rw [Zdi,List.length_take];omega)]
   simp only [ZeZ]
   rw [ZfO ls hkl hl 256 he.1 he.2]
   dsimp only
   rw [if_pos rfl,List.take_of_length_le (by omega)]
theorem Zns (ns:List Nat) (i:Nat):(ZhS ns i).length=ns.getD i 0:=by
 unfold ZhS msb;rw [List.length_reverse,Zai]
theorem Zos (ls ds:List Nat) (he:0<ls.getD 256 0):∀ts:List Tk,(∀t∈ts,t.Pos ls ds)→ts.length+1≤(ZeZ ls ds ts).length
 | [],_=>by rw [ZeZ,Zns,List.length_nil];omega
 | t::r,h=>by
  have ih:=Zos ls ds he r (fun x hx=>h x (List.mem_cons_of_mem _ hx))
  have h0:=h t (List.mem_cons_self ..)
  have:1≤(Zog ls ds t).length:=by
   cases t with
   | lit c=>rw [Zog,Zns];have:=h0.2;omega
   | far l k=>rw [Zog,List.length_append,Zns];have:=h0.1.2;omega
  rw [ZeZ,List.length_append,List.length_cons];omega
theorem ZkX {ns:List Nat} (h:ZcI ns=true):Zbm ns≤32768:=by
 unfold ZcI at h
 simp only [Bool.and_eq_true,Bool.or_eq_true,decide_eq_true_eq] at h
 rcases h.2.2 with h | h
 ·omega
 ·omega
theorem ZmA (ls ds:List Nat) (h1:ZcI ls=true) (h2:ZcI ds=true) (he:256<ls.length∧0<ls.getD 256 0) (s:Str) (hs:s.length≤300) (hp:∀t∈Zhi s,t.Pos ls ds) (rest:List Bool) :
  Zhf ls ds (some (ZeZ ls ds (Zhi s)++rest)) []=some (rest,ints s):=by
 have hl:=Zos ls ds he.2 (Zhi s) hp
 unfold Zhf
 dsimp only
 rw [h1,h2,Bool.and_self,if_pos rfl]
 have:=ZkP ls ds (ZkX h1) (ZkX h2) (Zfl h1).2 (Zfl h2).2 he s hs rest s.length 0 ((ZeZ ls ds (Zhi s)++rest).length+1) (Nat.zero_le _) (by omega) (by rw [List.length_append];unfold Zhi at hl;unfold Zhi;omega) hp
 exact this
theorem Znn:∀n,Zb6 (List.replicate n false)=0
 | 0=>rfl
 | n+1=>by rw [List.replicate_succ,Zb6,Znn n];rfl
theorem ZsW (z:Nat) (h:z<8):Zds (some (List.replicate z false))=some []:=by
 unfold Zds
 dsimp only
 rw [List.length_replicate,Nat.mod_eq_of_lt h,List.take_of_length_le (by simp),Znn,if_pos rfl,List.drop_eq_nil_of_le (by simp)]
theorem Zuf (b body:List Bool) (k:Nat) (hk:k<4) (o:List Int) (ho:o.length≤300) (hb:b=true::(ZbB k 2++body)) (h:∀rest,ZdB k (some (body++rest)) []=some (rest,o)) :
  ZsU (ZgF b)=some (o,(ZgF b).length):=by
 subst hb
 unfold ZsU
 rw [Zp8]
 unfold Zhg
 generalize hz:(8-(true::(ZbB k 2++body)).length%8)%8=z
 have hz8:z<8:=by rw [←hz];exact Nat.mod_lt _ (by decide)
 rw [List.cons_append,mGo,ZfP,List.append_assoc,Zdv 2 k (by omega),Zek,h]
 simp only [Option.map_some,Option.bind_some]
 rw [if_neg (by omega),if_pos trivial]
 simp only [Option.bind_some]
 rw [ZsW z hz8]
 simp
theorem Zxq (t:Tk) (h:t.Ok):t.Pos Zlk Zl1:=by
 have hL:∀i,i<288→0<Zlk.getD i 0:=by decide +kernel
 have hD:∀i,i<32→0<Zl1.getD i 0:=by decide +kernel
 cases t with
 | lit c=>
  have h:c<256:=h
  exact ⟨by rw [ZcC];omega,hL c (by omega)⟩
 | far l k=>
  obtain ⟨h1,h2,h3,h4⟩:=h
  obtain ⟨_,_,a1,_,_⟩:=ZeI l h1 h2
  obtain ⟨_,_,b1,_,_⟩:=Zfg k h3 h4
  exact ⟨⟨by rw [ZcC];omega,hL _ (by omega)⟩,by rw [Zgh];omega,hD _ (by omega)⟩
theorem Ztb:ZcI Zlk=true:=by decide +kernel
theorem Ztc:ZcI Zl1=true:=by decide +kernel
theorem ZsT (s:Str) (hs:s.length≤300):ZsU (Zgt s)=some (ints s,(Zgt s).length):=by
 unfold Zgt
 refine Zuf (ZuQ s) (ZeZ Zlk Zl1 (Zhi s)) 1 (by omega) _ (by rw [Zdi];exact hs) ?_ fun rest=>?_
 ·unfold ZuQ
  rw [List.append_assoc,show ZbB 1 1=[true] from rfl];rfl
 ·unfold ZdB
  rw [if_neg (by omega),if_pos rfl]
  exact ZmA Zlk Zl1 Ztb Ztc (by rw [ZcC];exact ⟨by omega,by decide +kernel⟩) s hs (fun t ht=>Zxq t (Zfz s t ht)) rest
theorem ZlF:∀s:Str,Zft s.length (ZcT s)=ints s
 | []=>rfl
 | c::r=>by
  rw [List.length_cons,Zft,ZcT,List.take_left' (Zai _ _),List.drop_left' (Zai _ _),ZlF r,Zki,Nat.mod_eq_of_lt (by have:=c.toNat_lt;simpa using this)]
  rfl
theorem ZsS (s:Str) (hs:s.length≤300):ZsU (Zgo s)=some (ints s,(Zgo s).length):=by
 have hb:ZcT (Zgo s)=ZmW++(ZbB s.length 16++(ZbB (65535-s.length) 16++ZcT s)):=by
  unfold Zgo
  rw [Ziv,Zgk 5 (Ze1 s.length) (by unfold Ze1;simp only [List.length_append,Zai];rfl)]
  unfold Ze1
  simp only [List.append_assoc]
 have hlen:(ZcT s).length=8*s.length:=Zcy s
 unfold ZsU
 rw [hb]
 have h8:∀r:List Bool,ZmW++r=true::(ZbB 0 2++(List.replicate 5 false++r)):=fun r=>rfl
 rw [h8,mGo,ZfP,Zdv 2 0 (by omega),Zek]
 unfold ZdB
 rw [if_pos rfl]
 unfold Ze5 Zds
 dsimp only
 rw [show (List.replicate 5 false++(ZbB s.length 16++(ZbB (65535-s.length) 16++ZcT s))).length%8=5 by simp only [List.length_append,List.length_replicate,Zai,hlen];omega,
  List.take_left' (List.length_replicate ..),Znn,if_pos rfl,List.drop_left' (List.length_replicate ..)]
 dsimp only
 rw [Zek]
 dsimp only
 rw [Zek]
 dsimp only
 rw [Zdv 16 s.length (by omega),Zdv 16 (65535-s.length) (by omega),if_neg (by omega)]
 simp only [Option.map_some,Option.bind_some,List.nil_append]
 rw [if_neg (by rw [ZeU];omega),if_pos trivial,ZlF,List.drop_eq_nil_of_le (by omega)]
 simp [Zb6]
end Ev
end
section
namespace Ev
open Go
theorem ZmC (M:List Nat) (h7:∀i,M.getD i 0≤7) (rest:List Bool):∀(is A:List Nat),Zgb is (ZdZ M is++rest) A=some (rest,is.foldl (fun A k=>A.set k (M.getD k 0)) A)
 | [],A=>rfl
 | k::r,A=>by
  have e:ZdZ M (k::r)=ZbB (M.getD k 0) 3++ZdZ M r:=by simp [ZdZ]
  have:=h7 k
  rw [e,List.append_assoc,Zgb,Zek]
  dsimp only
  rw [Zdv 3 _ (by omega),ZmC M h7 rest r]
  rfl
theorem ZsG (a0 a1 a2 a3 a4 a5 a6 a7 a8 a9 a10 a11 a12 a13 a14 a15 a16 a17 a18:Nat):ZaM.foldl (fun A k=>A.set k ([a0,a1,a2,a3,a4,a5,a6,a7,a8,a9,a10,a11,a12,a13,a14,a15,a16,a17,a18].getD k 0)) (List.replicate 19 0)=[a0,a1,a2,a3,a4,a5,a6,a7,a8,a9,a10,a11,a12,a13,a14,a15,a16,a17,a18]:=by kernel_rfl
theorem ZtX (M:List Nat) (h:M.length=19):ZaM.foldl (fun A k=>A.set k (M.getD k 0)) (List.replicate 19 0)=M:=by
 match M,h with
 | [a0,a1,a2,a3,a4,a5,a6,a7,a8,a9,a10,a11,a12,a13,a14,a15,a16,a17,a18],_=>exact ZsG a0 a1 a2 a3 a4 a5 a6 a7 a8 a9 a10 a11 a12 a13 a14 a15 a16 a17 a18
theorem Zpa (M:List Nat) (hk:Zbm M≤32768) (h15:∀n∈M,n≤15) (rest:List Bool) (n:Nat):∀(S all:List Nat) (f:Nat),(∀s∈S,s<M.length∧0<M.getD s 0∧s<16)→all.length+S.length=n→S.length<f→
  Zts M n f (ZiB M S++rest) all=some (rest,all++S)
 | [],all,f,h,hn,hf=>by
  obtain ⟨f',rfl⟩:∃f',f=f'+1:=⟨f-1,by omega⟩
  rw [Ze6]
  unfold ZeM
  rw [if_neg (by simp at hn;omega)]
  simp [ZiB]
 | s::r,all,f,h,hn,hf=>by
  obtain ⟨f',rfl⟩:∃f',f=f'+1:=⟨f-1,by omega⟩
  obtain ⟨h1,h2,h3⟩:=h s (List.mem_cons_self ..)
  rw [List.length_cons] at hn hf
  have e:ZiB M (s::r)=ZhS M s++ZiB M r:=by simp [ZiB]
  rw [Ze6]
  unfold ZeM
  rw [if_pos (by omega),e,List.append_assoc,ZfO M hk h15 s h1 h2]
  dsimp only
  unfold Zv0
  rw [if_pos h3]
  simp only [Option.bind_some]
  rw [Zpa M hk h15 rest n r (all++[s]) f' (fun x hx=>h x (List.mem_cons_of_mem _ hx)) (by simp;omega) (by omega),List.append_assoc]
  rfl
theorem ZnK {ns:List Nat} (h1:ns.length≤300) (h2:∀n∈ns,n≤15) (h3:Zbm ns=32768∨Zeo ns=1∧Zbm ns=16384):ZcI ns=true:=by
 unfold ZcI
 simp only [Bool.and_eq_true,Bool.or_eq_true,decide_eq_true_eq,List.all_eq_true]
 exact ⟨h1,h2,h3⟩
theorem Zue (ts:List Tk) (hO:Zg1 ts) (rest:List Bool) :
  ZfR (some (ZbB ((ZdK ts).length-257) 5++(ZbB ((Zd3 ts).length-1) 5++(ZbB 15 4++(ZdZ (Zfe ts) ZaM++(ZiB (Zfe ts) (ZfC ts)++rest))))))=some (ZdK ts,Zd3 ts,rest):=by
 have l1:=hO.l1
 have l2:=hO.l2
 have d1:=hO.d1
 have d2:=hO.d2
 have hSl:(ZfC ts).length=(ZdK ts).length+(Zd3 ts).length:=by unfold ZfC;rw [List.length_append]
 have h16:∀s∈ZfC ts,s<16:=fun s hs=>by
  unfold ZfC at hs
  rcases List.mem_append.1 hs with h | h
  ·have:=hO.l15 s h;omega
  ·have:=hO.d15 s h;omega
 have hML:ZcI (Zfe ts)=true:=ZnK (by rw [hO.ml];omega) hO.m15 hO.m.ok
 unfold ZfR
 dsimp only
 rw [Zek]
 dsimp only
 rw [Zek]
 dsimp only
 rw [Zek]
 dsimp only
 rw [Zdv 5 _ (by omega),Zdv 5 _ (by omega),Zdv 4 15 (by omega)]
 unfold ZjJ
 rw [show ZaM.take (15+4)=ZaM from rfl,ZmC (Zfe ts) hO.m7,ZtX _ hO.ml]
 dsimp only
 have hneg:¬(ZcI (Zfe ts)=false∨286<(ZdK ts).length-257+257∨30<(Zd3 ts).length-1+1):=by
  rintro (q | q | q)
  ·rw [hML] at q;cases q
  ·omega
  ·omega
 rw [if_neg hneg,show (ZdK ts).length-257+257=(ZdK ts).length by omega,show (Zd3 ts).length-1+1=(Zd3 ts).length by omega,
  Zpa (Zfe ts) hO.km hO.m15 rest ((ZdK ts).length+(Zd3 ts).length) (ZfC ts) [] _ (fun s hs=>⟨by rw [hO.ml];exact (hO.mpos s hs).2,(hO.mpos s hs).1,h16 s hs⟩) (by rw [hSl];simp) (by omega)]
 dsimp only
 rw [List.nil_append,if_pos hSl]
 unfold ZfC
 rw [List.take_left' rfl,List.drop_left' rfl]
theorem Zg1.pos {ts:List Tk} (h:Zg1 ts):∀t∈ts,t.Pos (ZdK ts) (Zd3 ts):=fun t ht=>by
 cases t with
 | lit c=>have:=h.lpos c (List.mem_flatMap.2 ⟨_,ht,by simp [ZqK]⟩);exact ⟨this.2,this.1⟩
 | far l k=>
  have h1:=h.lpos (257+ZbG Zay l) (List.mem_flatMap.2 ⟨_,ht,by simp [ZqK]⟩)
  have h2:=h.dpos (ZbG ZaL k) (List.mem_flatMap.2 ⟨_,ht,by simp [Ztn]⟩)
  exact ⟨⟨h1.2,h1.1⟩,h2.2,h2.1⟩
theorem Zv1 (s:Str) (hs:s.length≤300):ZsU (ZsF s)=some (ints s,(ZsF s).length):=by
 have hlen:(Zhi s).length≤300:=Nat.le_trans (ZeY s) hs
 have hO:=ZtT (Zhi s) (Zfz s) hlen
 unfold ZsF
 refine Zuf (ownB (Zhi s)) (ZbB ((ZdK (Zhi s)).length-257) 5++(ZbB ((Zd3 (Zhi s)).length-1) 5++(ZbB 15 4++(ZdZ (Zfe (Zhi s)) ZaM++(ZiB (Zfe (Zhi s)) (ZfC (Zhi s))++ZeZ (ZdK (Zhi s)) (Zd3 (Zhi s)) (Zhi s)))))) 2 (by omega) _ (by rw [Zdi];exact hs) ?_ fun rest=>?_
 ·unfold ownB Zmr
  simp only [List.append_assoc,List.nil_append,show ZbB 1 1=[true] from rfl,List.cons_append]
 ·simp only [List.append_assoc]
  unfold ZdB
  rw [if_neg (by omega),if_neg (by omega),if_pos rfl,Zue _ hO]
  dsimp only
  exact ZmA _ _ (ZnK (by have:=hO.l2;omega) hO.l15 hO.lk) (ZnK (by have:=hO.d2;omega) hO.d15 hO.dk) ⟨by have:=hO.l1;omega,hO.epos⟩ s hs hO.pos rest
theorem Zsk (s:Str):(Zgl s).length≤s.length+5:=by
 have:=Znu s
 unfold Zgl
 dsimp only
 split<;>split<;>omega
theorem Zug (s:Str) (hs:s.length≤300):ZsU (Zgl s)=some (ints s,(Zgl s).length):=by
 have h:Zgl s=ZsF s∨Zgl s=Zgt s∨Zgl s=Zgo s:=by
  unfold Zgl
  dsimp only
  by_cases c1:(Zgt s).length<(Zgo s).length
  ·rw [if_pos c1];split
   ·exact .inl rfl
   ·exact .inr (.inl rfl)
  ·rw [if_neg c1];split
   ·exact .inl rfl
   ·exact .inr (.inr rfl)
 rcases h with h | h | h<;>rw [h]
 ·exact Zv1 s hs
 ·exact ZsT s hs
 ·exact ZsS s hs
theorem ZqW (s:Str) (hs:s.length≤300):Zgs (Zgl s)=(s,((Zgl s).length:Int),true):=by
 have:=Zsk s
 unfold Zgs
 rw [if_neg (by omega),Zug s hs]
 unfold Zwl ints
 dsimp only
 rw [ZgD]
end Ev
end
section
namespace Ev
open Go
theorem ZpY (b:UInt8):∀s:Str,((Zbt b s).map fun p=>p.length+1).sum=s.length+1
 | []=>rfl
 | c::s=>by
  have ih:=ZpY b s
  simp only [Zbt]
  split
  ·rw [List.map_cons,List.sum_cons,ih,List.length_cons,List.length_nil];omega
  ·cases hc:Zbt b s with
   | nil=>exact absurd hc (Zem b s)
   | cons p r=>
    rw [hc] at ih
    simp only [List.map_cons,List.sum_cons,List.length_cons] at ih ⊢
    omega
theorem ZfJ {α:Type} (f:α→Nat) (k:Nat):∀l:List α,(∀x∈l,f x≤k)→(l.map f).sum≤k*l.length
 | [],_=>by simp
 | x::l,h=>by
  have h1:=h x (List.mem_cons_self ..)
  have h2:=ZfJ f k l (fun y hy=>h y (List.mem_cons_of_mem _ hy))
  rw [List.map_cons,List.sum_cons,List.length_cons,Nat.mul_add];omega
theorem Zdg {s:Str} (h:Zdh s=true):1≤s.length∧s.length≤43:=by
 unfold Zdh at h
 rw [Bool.and_eq_true,List.all_eq_true,decide_eq_true_eq] at h
 obtain ⟨h1,h2⟩:=h
 have hs:=ZpY 47 s
 have hp:∀p∈Zbt 47 s,1≤p.length∧p.length≤10:=fun p hp=>by
  have:=h1 p hp
  unfold part at this
  simp only [Bool.and_eq_true,decide_eq_true_eq] at this
  exact this.2.1
 have hm:=ZfJ (fun p:Str=>p.length+1) 11 (Zbt 47 s) (fun p h=>by have:=hp p h;omega)
 refine ⟨?_,by omega⟩
 cases hc:Zbt 47 s with
 | nil=>exact absurd hc (Zem 47 s)
 | cons p r=>
  have:=(hp p (by rw [hc];exact List.mem_cons_self ..)).1
  rw [hc,List.map_cons,List.sum_cons] at hs
  omega
abbrev Fil.txt (e:Fil):Str:=e.2.2.2.2.2.2.2
def ZdY (text:Str):Nat×Str:=if (Zgl text).length<text.length then (8,Zgl text) else (0,text)
def stF (e:Fil):Nat:=stN e.2.1.toNat e.2.2.1.toNat e.2.2.2.1.toNat e.2.2.2.2.1.toNat e.2.2.2.2.2.1.toNat e.2.2.2.2.2.2.1.toNat
def Zul (e:Fil):Str:=ZpD (ZdY e.txt).1 (stF e) (Zoi e.txt) (ZdY e.txt).2.length e.txt.length e.1.length
def Zgq (e:Fil):Str:=Zul e++(e.1++(ZdY e.txt).2)
theorem ZcQ (a b c d e f:Nat):(ZpD a b c d e f).length=30:=by
 unfold ZpD;simp only [List.length_append,ZaG]
theorem Zh1 (t:Str):(ZdY t).2.length≤t.length∧(ZdY t).1≤8:=by
 unfold ZdY
 split
 ·exact ⟨by dsimp only;omega,by dsimp only;omega⟩
 ·exact ⟨Nat.le_refl _,by dsimp only;omega⟩
theorem unpM_8 (body t:Str) (h:Zgs body=(t,(body.length:Int),true)):Zvn 8 body=some t:=by
 unfold Zvn
 rw [h,if_neg (by omega),if_pos rfl]
 exact if_pos ⟨rfl,rfl⟩
theorem unpM_0 (body:Str):Zvn 0 body=some body:=by
 unfold Zvn;rw [if_pos rfl]
theorem ZvJ (t:Str) (ht:t.length≤300):Zvn (ZdY t).1 (ZdY t).2=some t:=by
 have h8:=unpM_8 (Zgl t) t (ZqW t ht)
 have h0:=unpM_0 t
 unfold ZdY
 generalize Zgl t=b at h8 ⊢
 split
 ·exact h8
 ·exact h0
theorem Zge (e:Fil):(Zgq e).length=30+e.1.length+(ZdY e.txt).2.length:=by
 unfold Zgq Zul;rw [List.length_append,List.length_append,ZcQ];omega
theorem Zcl {e:Fil} (h:Zcq e=true):Zdh e.1=true∧stM e.2.1 e.2.2.1 e.2.2.2.1 e.2.2.2.2.1 e.2.2.2.2.2.1 e.2.2.2.2.2.2.1=true∧e.txt.length≤300:=by
 unfold Zcq at h
 simp only [Bool.and_eq_true,decide_eq_true_eq] at h
 exact ⟨h.1,h.2.1,h.2.2⟩
set_option maxRecDepth 100000 in
theorem Zuk (e:Fil) (h:Zcq e=true) (x:Str):ZgN (Zgq e++x)=some (e,(Zgq e).length):=by
 obtain ⟨h1,h2,h3⟩:=Zcl h
 have hL:=Zge e
 have hnl:=Zdg h1
 have hp:=Zh1 e.txt
 have hu:=ZvJ e.txt h3
 have hc:=ZhN e.txt
 obtain ⟨y,mo,d,hh,mi,sec,e1,e2,e3,e4,e5,e6,_⟩:=ZiK h2
 have hst:stF e=stN y mo d hh mi sec:=by
  unfold stF;rw [e1,e2,e3,e4,e5,e6];simp only [Int.toNat_natCast]
 rw [e1,e2,e3,e4,e5,e6] at h2
 obtain ⟨g1,g2⟩:=Znv h2
 rw [←hst] at g1 g2
 obtain ⟨s,hs⟩:∃s,s=Zgq e++x:=⟨_,rfl⟩
 rw [←hs]
 have hsl:s.length=(Zgq e).length+x.length:=by rw [hs,List.length_append]
 have happ:s=Zul e++(e.1++((ZdY e.txt).2++x)):=by rw [hs];unfold Zgq;simp only [List.append_assoc]
 have hl30:(Zul e).length=30:=ZcQ _ _ _ _ _ _
 have ht30:Zul e=s.take 30:=by rw [happ,List.take_left' hl30]
 have hd30:s.drop 30=e.1++((ZdY e.txt).2++x):=by rw [happ,List.drop_left' hl30]
 have hname:(s.drop 30).take e.1.length=e.1:=by rw [hd30,List.take_left' rfl]
 have hbody:(s.drop (30+e.1.length)).take (ZdY e.txt).2.length=(ZdY e.txt).2:=by
  rw [←List.drop_drop,hd30,List.drop_left' rfl,List.take_left' rfl]
 obtain ⟨q1,q2,q3,q4,q5,q6,q7,q8,q9,q10⟩:=(ZnU s (by omega) (ZdY e.txt).1 (stF e) (Zoi e.txt) (ZdY e.txt).2.length e.txt.length e.1.length (by omega) g2 hc (by omega) (by omega) (by omega)).1 ht30
 unfold ZgN
 rw [if_neg (by omega),q9,q7,if_neg (by omega),q4,hbody,hu]
 dsimp only
 have hC:ZqJ s e.txt:=by
  unfold ZqJ
  rw [q9,hname,q5,g1]
  exact ⟨h1,h2,h3,q1,q2,q3,q10,q6,q8⟩
 rw [if_pos hC,hname,q5,g1]
 dsimp only
 rw [←e1,←e2,←e3,←e4,←e5,←e6,←hL]
end Ev
end
section
namespace Ev
open Go
def Zl0 (es:List Fil):Str:=(es.map Zgq).flatten
def Znl (es:List Fil):Str:=Zl0 es++Zd6 (es.map Zgq)
theorem Zi9 (e:Fil) (r:List Fil):Zl0 (e::r)=Zgq e++Zl0 r:=by simp [Zl0]
theorem ZgT (es:List Fil):(Zl0 es).length=Zfd (es.map Zgq):=by
 induction es with
 | nil=>rfl
 | cons e r ih=>rw [Zi9,List.length_append,ih];simp [Zfd]
theorem ZkC (rest:Str) (hr:ZgN rest=none):∀(es:List Fil) (K:Nat),es.length≤K→(∀e∈es,Zcq e=true)→Zbo K (Zl0 es++rest)=(es,es.map Zgq,rest)
 | [],K,hK,h=>by
  rw [show Zl0 []++rest=rest from rfl]
  cases K with
  | zero=>rfl
  | succ K=>rw [Zbo,hr];rfl
 | e::r,K,hK,h=>by
  rw [List.length_cons] at hK
  obtain ⟨K,rfl⟩:∃K',K=K'+1:=⟨K-1,by omega⟩
  rw [Zi9,List.append_assoc,Zbo,Zuk e (h e (List.mem_cons_self ..))]
  dsimp only
  rw [List.drop_left' rfl,List.take_left' rfl,ZkC rest hr r K (by omega) (fun x hx=>h x (List.mem_cons_of_mem _ hx))]
  rfl
theorem Zq5 (ls:List Str):ZgN (Zd6 ls)=none:=ZlB _ _ _ _ _
theorem ZhT {es:List Fil} (h:ZgB es=true):(∀e∈es,Zcq e=true)∧es.length≤6:=by
 unfold ZgB at h
 simp only [Bool.and_eq_true,List.all_eq_true,decide_eq_true_eq] at h
 exact ⟨h.1,h.2.1⟩
theorem Zom (es:List Fil) (h:ZgB es=true):ZeX (Znl es)=some es:=by
 obtain ⟨h1,h2⟩:=ZhT h
 unfold ZeX Znl
 rw [ZkC _ (Zq5 _) es 6 h2 h1]
 dsimp only
 rw [if_pos ⟨h,rfl⟩]
theorem ZqH {e:Fil} (h:Zcq e=true):(Zgq e).length≤373∧30≤(Zgq e).length:=by
 obtain ⟨h1,h2,h3⟩:=Zcl h
 have:=Zdg h1
 have:=Zh1 e.txt
 rw [Zge];omega
theorem ZkR {e:Fil} (h:Zcq e=true):leN (Zgq e) 26 2=e.1.length:=by
 obtain ⟨h1,h2,h3⟩:=Zcl h
 have hnl:=Zdg h1
 have hp:=Zh1 e.txt
 have hc:=ZhN e.txt
 obtain ⟨y,mo,d,hh,mi,sec,e1,e2,e3,e4,e5,e6,_⟩:=ZiK h2
 have hst:stF e=stN y mo d hh mi sec:=by
  unfold stF;rw [e1,e2,e3,e4,e5,e6];simp only [Int.toNat_natCast]
 rw [e1,e2,e3,e4,e5,e6] at h2
 obtain ⟨g1,g2⟩:=Znv h2
 rw [←hst] at g2
 have hL:=Zge e
 have hl30:(Zul e).length=30:=ZcQ _ _ _ _ _ _
 have ht30:Zul e=(Zgq e).take 30:=by unfold Zgq;rw [List.take_left' hl30]
 exact ((ZnU (Zgq e) (by omega) (ZdY e.txt).1 (stF e) (Zoi e.txt) (ZdY e.txt).2.length e.txt.length e.1.length (by omega) g2 hc (by omega) (by omega) (by omega)).1 ht30).2.2.2.2.2.2.2.2.1
theorem ZmG {e:Fil} (h:Zcq e=true):Zof (Zgq e):=by
 have h1:=ZqH h
 refine ⟨?_,by omega⟩
 rw [ZkR h,Zge];omega
theorem Znt (es:List Fil) (h:∀e∈es,Zcq e=true):Zfd (es.map Zgq)≤373*es.length:=by
 unfold Zfd
 rw [List.map_map]
 exact ZfJ _ 373 es fun e he=>(ZqH (h e he)).1
theorem ZmV (es:List Fil) (h:∀e∈es,Zcq e=true):∀a,(Zca (es.map Zgq) a).length=(es.map fun e=>46+e.1.length).sum:=by
 induction es with
 | nil=>intro a;rfl
 | cons e r ih=>
  intro a
  have he:=h e (List.mem_cons_self ..)
  simp only [List.map_cons,Zca,List.length_append,List.sum_cons]
  rw [ZgY _ _ (ZmG he),ZkR he,ih (fun x hx=>h x (List.mem_cons_of_mem _ hx))]
theorem Zql (es:List Fil) (h:∀e∈es,Zcq e=true):(Znl es).length=Zfd (es.map Zgq)+(es.map fun e=>46+e.1.length).sum+22:=by
 unfold Znl Zd6
 rw [List.length_append,List.length_append,ZgT,ZhL,ZmV es h];omega
theorem Zqm (es:List Fil) (h:ZgB es=true):(Znl es).length≤3000:=by
 obtain ⟨h1,h2⟩:=ZhT h
 have a1:=Znt es h1
 have a2:=ZfJ (fun e:Fil=>46+e.1.length) 89 es fun e he=>by
  have:=Zdg (Zcl (h1 e he)).1
  omega
 rw [Zql es h1];omega
end Ev
end
section
namespace Ev
open Go
theorem Zwo (e:Fil) (hn:e.1.length≤1048576):Zb5 e.1 e.2.1 e.2.2.1 e.2.2.2.1 e.2.2.2.2.1 e.2.2.2.2.2.1 e.2.2.2.2.2.2.1 e.2.2.2.2.2.2.2=some (Zcq e):=Zjg _ hn _ _ _ _ _ _ _
theorem Zoy (e:Fil) (hn:e.1.length≤1048576):ZaX e.1 e.2.1 e.2.2.1 e.2.2.2.1 e.2.2.2.2.1 e.2.2.2.2.2.1 e.2.2.2.2.2.2.1 e.2.2.2.2.2.2.2=some (Zcq e):=ZfA _ hn _ _ _ _ _ _ _
theorem ZpR {e:Fil} (h:Zcq e=true):∃(nm:Str) (y mo d hh mi sec:Nat) (t:Str),e=(nm,(y:Int),(mo:Int),(d:Int),(hh:Int),(mi:Int),(sec:Int),t)∧Zdh nm=true∧stM y mo d hh mi sec=true∧t.length≤300∧nm.length≤43∧1≤nm.length∧stF e=stN y mo d hh mi sec∧stN y mo d hh mi sec<4294967296:=by
 obtain ⟨h1,h2,h3⟩:=Zcl h
 have hnl:=Zdg h1
 obtain ⟨nm,y,mo,d,hh,mi,sec,t⟩:=e
 dsimp only at h1 h2 h3 hnl
 obtain ⟨y',mo',d',hh',mi',sec',rfl,rfl,rfl,rfl,rfl,rfl,_⟩:=ZiK h2
 exact ⟨nm,y',mo',d',hh',mi',sec',t,rfl,h1,h2,h3,hnl.2,hnl.1,by unfold stF;simp only [Int.toNat_natCast],(Znv h2).2⟩
theorem ZqF (e:Fil) (hn:e.1.length≤1048576):Zc9 e.1 e.2.1 e.2.2.1 e.2.2.2.1 e.2.2.2.2.1 e.2.2.2.2.2.1 e.2.2.2.2.2.2.1 e.2.2.2.2.2.2.2=some (if Zcq e then Zgq e else []):=by
 unfold Zc9
 rw [Zwo e hn]
 simp only [Zaa]
 cases hf:Zcq e with
 | false=>rfl
 | true=>
  obtain ⟨nm,y,mo,d,hh,mi,sec,t,rfl,h1,h2,h3,h4,_,h5,h6⟩:=ZpR hf
  have hb:=Zsk t
  dsimp only
  simp only [Bool.not_true,cond_false]
  rw [if_pos trivial,ZqV t h3]
  simp only [Zaa]
  unfold Zgq Zul ZdY
  rw [h5]
  dsimp only [Fil.txt]
  by_cases hlt:(Zgl t).length<t.length
  ·rw [decide_eq_true (by omega),cond_true,if_pos hlt]
   have:=Zk9 nm (by omega) h2 t (by omega) 8 (Zgl t).length (by omega) (by omega)
   rw [show ((8:Nat):Int)=8 from rfl] at this
   rw [this]
   simp only [Zaa]
   rw [Zad (by rw [ZcQ];omega),Zad (by rw [List.length_append,ZcQ];omega),List.append_assoc]
  ·rw [decide_eq_false (by omega),cond_false,if_neg hlt]
   have:=Zk9 nm (by omega) h2 t (by omega) 0 t.length (by omega) (by omega)
   rw [show ((0:Nat):Int)=0 from rfl] at this
   rw [this]
   simp only [Zaa]
   rw [Zad (by rw [ZcQ];omega),Zad (by rw [List.length_append,ZcQ];omega),List.append_assoc]
theorem ZnZ (es:List Fil) (i:Nat) (h:i<es.length):es.getD i ([],0,0,0,0,0,0,[])=es[i]:=Zam h
theorem Zok (es:List Fil) (hn:es.length≤1000) (hx:∀e∈es,Zcq e=true):∀(j i:Nat) (out:List Str),i+j=es.length→out.length=i→
  ZcF.l0 (j+1) (es,(es.length:Int),(i:Int),out)=some (out++(es.drop i).map Zgq)
 | 0,i,out,h,ho=>by
  rw [ZcF.l0.succ];simp only [ZcF.l0.step]
  rw [Za0 (by omega),List.drop_eq_nil_of_le (by omega)];simp
 | j+1,i,out,h,ho=>by
  have hi:i<es.length:=by omega
  have hf:=hx es[i] (List.getElem_mem hi)
  have hnl:=Zdg (Zcl hf).1
  rw [ZcF.l0.succ];simp only [ZcF.l0.step]
  rw [ZaZ hi,cond_true,Zab _ ZaE,Int.toNat_natCast,ZnZ es i hi,ZqF _ (by omega),if_pos hf]
  simp only [Zaa]
  rw [Zad (by simp;omega),Zaf (by omega) (by omega),show (i:Int)+1=((i+1:Nat):Int) by omega,
   Zok es hn hx j (i+1) _ (by omega) (by simp [ho]),List.drop_eq_getElem_cons hi,List.map_cons,List.append_assoc]
  rfl
theorem ZuB (xs:List Str):ZqR xs []=xs.flatten:=by
 unfold ZqR
 induction xs with
 | nil=>rfl
 | cons x r ih=>
  cases r with
  | nil=>simp [List.intercalate]
  | cons y r=>simp only [List.intercalate,List.intersperse,List.flatten_cons] at ih ⊢;rw [ih];rfl
theorem Ztv (es:List Fil) (hn:es.length≤1048576) (hx:∀e∈es,e.1.length≤1048576):ZcF es=some (if ZgB es then Znl es else []):=by
 unfold ZcF
 rw [Znm es hn hx]
 simp only [Zaa]
 cases hz:ZgB es with
 | false=>rfl
 | true=>
  obtain ⟨h1,h2⟩:=ZhT hz
  have h:=Zok es (by omega) h1 es.length 0 [] (by omega) rfl
  rw [show ((0:Nat):Int)=0 from rfl,List.drop_zero,List.nil_append] at h
  have hs:=Znt es h1
  have hle:=Zqm es hz
  have hfl:=ZgT es
  have hcl:Zbx (es.map Zgq)=some (Zd6 (es.map Zgq)):=Znb _ (by rw [List.length_map];omega) (fun l hl=>by
   obtain ⟨e,he,rfl⟩:=List.mem_map.1 hl
   exact ZmG (h1 e he))
  simp only [Bool.not_true,cond_false]
  rw [if_pos trivial,ZaJ,h]
  simp only [Zaa]
  unfold joinS
  rw [ZuB,show (es.map Zgq).flatten=Zl0 es from rfl,Zab _ (by rw [Bool.and_eq_true];exact ⟨Zfa (by rw [List.length_map];omega),Zfa (by omega)⟩)]
  simp only [Zaa]
  rw [hcl]
  simp only [Zaa]
  rw [Zad (by unfold Znl at hle;rw [List.length_append] at hle;omega)]
  rfl
theorem ZrN (t:Str) (ht:t.length≤300):Zgz t=some (((ZdY t).1:Int),(ZdY t).2):=by
 unfold Zgz ZdY
 rw [Zks t ht]
 simp only [Zaa]
 by_cases hlt:(Zgl t).length<t.length
 ·rw [decide_eq_true (by omega),if_pos hlt];rfl
 ·rw [decide_eq_false (by omega),if_neg hlt];rfl
def ZwS (e:Fil):Str:=leB 20 2++leB 0 2++leB (ZdY e.txt).1 2++leB (stF e) 4++leB (Zoi e.txt) 4++leB (ZdY e.txt).2.length 4++leB e.txt.length 4++leB e.1.length 2++leB 0 2
theorem ZrD (e:Fil):Zul e=leB 67324752 4++ZwS e:=by
 unfold Zul ZpD ZwS;simp only [List.append_assoc]
theorem ZhK (e:Fil):(ZwS e).length=26:=by
 unfold ZwS;simp only [List.length_append,ZaG]
set_option maxRecDepth 100000 in
theorem ZkY (e:Fil) (hf:Zcq e=true):Zco e.1 e.2.1 e.2.2.1 e.2.2.2.1 e.2.2.2.2.1 e.2.2.2.2.2.1 e.2.2.2.2.2.2.1 e.2.2.2.2.2.2.2=some (ZwS e):=by
 have L:∀n k,(leB n k).length=k:=ZaG
 obtain ⟨nm,y,mo,d,hh,mi,sec,t,rfl,h1,h2,h3,h4,_,h5,h6⟩:=ZpR hf
 have hp:=Zh1 t
 have hc:=ZhN t
 have n1:=Za7 20 2 (by omega) (by omega)
 have n2:=Za7 0 2 (by omega) (by omega)
 have n3:=Za7 (ZdY t).1 2 (by omega) (by omega)
 have n4:=Za7 (stN y mo d hh mi sec) 4 (by omega) (by omega)
 have n5:=Za7 (Zoi t) 4 (by omega) (by omega)
 have n6:=Za7 (ZdY t).2.length 4 (by omega) (by omega)
 have n7:=Za7 t.length 4 (by omega) (by omega)
 have n8:=Za7 nm.length 2 (by omega) (by omega)
 rw [show ((20:Nat):Int)=20 from rfl,show ((2:Nat):Int)=2 from rfl] at n1
 rw [show ((0:Nat):Int)=0 from rfl,show ((2:Nat):Int)=2 from rfl] at n2
 rw [show ((2:Nat):Int)=2 from rfl] at n3 n8
 rw [show ((4:Nat):Int)=4 from rfl] at n4 n5 n6 n7
 unfold Zco
 dsimp only
 rw [ZrN t h3]
 simp only [Zaa]
 rw [n1,n2]
 simp only [Zaa]
 rw [Zad (by simp only [L];omega),n3]
 simp only [Zaa]
 rw [Zad (by simp only [List.length_append,L];omega),Zv7 h2]
 simp only [Zaa]
 rw [n4]
 simp only [Zaa]
 rw [Zad (by simp only [List.length_append,L];omega),Zmg t (by omega)]
 simp only [Zaa]
 rw [n5]
 simp only [Zaa]
 rw [Zad (by simp only [List.length_append,L];omega),n6]
 simp only [Zaa]
 rw [Zad (by simp only [List.length_append,L];omega),n7]
 simp only [Zaa]
 rw [Zad (by simp only [List.length_append,L];omega),n8]
 simp only [Zaa]
 rw [Zad (by simp only [List.length_append,L];omega),Zad (by simp only [List.length_append,L];omega)]
 unfold ZwS
 rw [h5]
theorem ZsY (e:Fil) (hf:Zcq e=true):ZdR e.1 e.2.1 e.2.2.1 e.2.2.2.1 e.2.2.2.2.1 e.2.2.2.2.2.1 e.2.2.2.2.2.2.1 e.2.2.2.2.2.2.2=some (Zgq e):=by
 have hfl:=ZhK e
 have hff:=ZkY e hf
 obtain ⟨g1,g2,g3⟩:=Zcl hf
 have hnl:=Zdg g1
 have hp:(ZdY e.2.2.2.2.2.2.2).2.length≤e.2.2.2.2.2.2.2.length∧(ZdY e.2.2.2.2.2.2.2).1≤8:=Zh1 e.txt
 have g3':e.2.2.2.2.2.2.2.length≤300:=g3
 have n1:=Za7 67324752 4 (by omega) (by omega)
 rw [show ((67324752:Nat):Int)=67324752 from rfl,show ((4:Nat):Int)=4 from rfl] at n1
 unfold ZdR
 rw [ZrN e.2.2.2.2.2.2.2 g3]
 simp only [Zaa]
 rw [n1,hff]
 simp only [Zaa]
 rw [Zad (by rw [ZaG];omega),Zad (by rw [List.length_append,ZaG];omega),Zad (by rw [List.length_append,List.length_append,ZaG];omega)]
 unfold Zgq
 rw [ZrD]
 simp only [List.append_assoc]
theorem Zsh (e:Fil) (hf:Zcq e=true) (a:Nat):ZhO (Zgq e) a=leB 33639248 4++leB 20 2++ZwS e++leB 0 10++leB a 4++e.1:=by
 have hl30:(Zul e).length=30:=ZcQ _ _ _ _ _ _
 have h1:((Zgq e).take 30).drop 4=ZwS e:=by
  unfold Zgq
  rw [List.take_left' hl30,ZrD,List.drop_left' (ZaG _ _)]
 have h2:((Zgq e).take (30+e.1.length)).drop 30=e.1:=by
  unfold Zgq
  rw [←List.append_assoc,List.take_left' (by rw [List.length_append,hl30]),List.drop_left' hl30]
 unfold ZhO
 rw [ZkR hf,h1,h2]
theorem Zpj (e:Fil) (hf:Zcq e=true) (a:Nat) (ha:a≤100000000):Zcu e.1 e.2.1 e.2.2.1 e.2.2.2.1 e.2.2.2.2.1 e.2.2.2.2.2.1 e.2.2.2.2.2.2.1 e.2.2.2.2.2.2.2 (a:Int)=some (ZhO (Zgq e) a):=by
 have L:∀n k,(leB n k).length=k:=ZaG
 have hfl:=ZhK e
 have hff:=ZkY e hf
 obtain ⟨g1,g2,g3⟩:=Zcl hf
 have hnl:=Zdg g1
 have n1:=Za7 33639248 4 (by omega) (by omega)
 have n2:=Za7 20 2 (by omega) (by omega)
 have n3:=Za7 0 2 (by omega) (by omega)
 have n4:=Za7 0 4 (by omega) (by omega)
 have n5:=Za7 a 4 (by omega) (by omega)
 rw [show ((33639248:Nat):Int)=33639248 from rfl,show ((4:Nat):Int)=4 from rfl] at n1
 rw [show ((20:Nat):Int)=20 from rfl,show ((2:Nat):Int)=2 from rfl] at n2
 rw [show ((0:Nat):Int)=0 from rfl,show ((2:Nat):Int)=2 from rfl] at n3
 rw [show ((0:Nat):Int)=0 from rfl,show ((4:Nat):Int)=4 from rfl] at n4
 rw [show ((4:Nat):Int)=4 from rfl] at n5
 unfold Zcu
 rw [n1,n2,hff,n3,n4,n5]
 simp only [Zaa]
 rw [Zad (by simp only [L];omega),Zad (by simp only [List.length_append,L];omega),Zad (by simp only [List.length_append,L];omega),Zad (by simp only [List.length_append,L];omega),Zad (by simp only [List.length_append,L];omega),
  Zad (by simp only [List.length_append,L];omega),Zad (by simp only [List.length_append,L];omega),Zad (by simp only [List.length_append,L];omega),Zsh e hf a]
 have z:leB 0 10=leB 0 2++(leB 0 2++(leB 0 2++leB 0 4)):=by decide
 rw [z]
 simp only [List.append_assoc]
theorem ZwA (e:Fil) (hf:Zcq e=true) (a:Nat):(ZhO (Zgq e) a).length≤89:=by
 have hnl:=Zdg (Zcl hf).1
 rw [Zsh e hf]
 simp only [List.length_append,ZaG,ZhK];omega
theorem ZrJ (es:List Fil) (hn:es.length≤1000) (hx:∀e∈es,Zcq e=true):∀(j i:Nat) (out heads:Str),i+j=es.length→out.length≤373*i→heads.length≤89*i→
  Zed.l0 (j+1) (es,out,heads,(i:Int))=some (es,out++Zl0 (es.drop i),heads++Zca ((es.drop i).map Zgq) out.length)
 | 0,i,out,heads,h,ho,hh=>by
  rw [Zed.l0.succ];simp only [Zed.l0.step]
  rw [Za0 (by omega),List.drop_eq_nil_of_le (by omega)];simp [Zl0,Zca]
 | j+1,i,out,heads,h,ho,hh=>by
  have hi:i<es.length:=by omega
  have hf:=hx es[i] (List.getElem_mem hi)
  have hc:=ZwA es[i] hf out.length
  have hl:=ZqH hf
  rw [Zed.l0.succ];simp only [Zed.l0.step]
  rw [ZaZ hi,cond_true,Zab _ ZaE,Int.toNat_natCast,ZnZ es i hi,Zpj _ hf _ (by omega)]
  simp only [Zaa]
  rw [Zad (by omega),Zab _ ZaE,ZsY _ hf]
  simp only [Zaa]
  rw [Zad (by omega),Zaf (by omega) (by omega),show (i:Int)+1=((i+1:Nat):Int) by omega,
   ZrJ es hn hx j (i+1) _ _ (by omega) (by rw [List.length_append];omega) (by rw [List.length_append];omega),List.drop_eq_getElem_cons hi,List.map_cons,Zi9]
  simp only [Zca,List.append_assoc,List.length_append]
theorem Zv6 (es:List Fil) (hn:es.length≤1000) (hx:∀e∈es,Zcq e=true):Zed es=some (Znl es):=by
 have h:=ZrJ es hn hx es.length 0 [] [] (by omega) (by simp) (by simp)
 rw [show ((0:Nat):Int)=0 from rfl,List.drop_zero,List.nil_append,List.nil_append,List.length_nil] at h
 have h1:=Znt es hx
 have h2:=ZgT es
 have h3:=ZmV es hx 0
 have h4:=ZfJ (fun e:Fil=>46+e.1.length) 89 es fun e he=>by
  have:=Zdg (Zcl (hx e he)).1
  omega
 unfold Zed
 rw [ZaJ,h]
 simp only [Zaa]
 rw [Zad (by omega),ZrL es.length _ _ (by omega) (by omega) (by omega)]
 simp only [Zaa]
 rw [Zad (by rw [List.length_append,ZhL];omega)]
 unfold Znl Zd6
 rw [List.length_map,h2,List.append_assoc]
def Zn6 (es:List Fil):Str×Str×Bool:=if ZgB es then (Znl es,[],true) else ([],[],false)
theorem Zth (es:List Fil) (hn:es.length≤1048576) (hx:∀e∈es,e.1.length≤1048576):ZdD es=some (Zn6 es):=by
 unfold ZdD Zn6
 rw [Znm es hn hx]
 simp only [Zaa]
 cases hz:ZgB es with
 | false=>rfl
 | true=>
  simp only [Bool.not_true,cond_false]
  rw [Ztv es hn hx,hz];rfl
end Ev
end
section
namespace Ev
open Go
theorem ZmY (a b:List Str) (i:Nat) (h:i<a.length):(a++b).getD i []=a.getD i []:=by
 simp only [List.getD_eq_getElem?_getD,List.getElem?_append_left h]
theorem Zs8 (a:List Str) (n:Str):(a++[n]).getD a.length []=n:=by
 simp [List.getD_eq_getElem?_getD]
theorem ZlL (ns:List Str) (n:Str):Zf2 (ns++[n])=(Zf2 ns&&ns.all fun b=>!hit n b):=by
 unfold Zf2
 rw [List.length_append,List.length_cons,List.length_nil,Nat.zero_add,List.range_succ,List.all_append,List.all_cons,List.all_nil,Bool.and_true]
 congr 1
 ·apply Bool.eq_iff_iff.2
  rw [List.all_eq_true,List.all_eq_true]
  constructor<;>intro h i hi
  ·have hlt:=List.mem_range.1 hi
   have:=h i hi
   rwa [List.take_append_of_le_length (by omega),ZmY _ _ _ hlt] at this
  ·have hlt:=List.mem_range.1 hi
   have:=h i hi
   rwa [List.take_append_of_le_length (by omega),ZmY _ _ _ hlt]
 ·rw [List.take_left' rfl,Zs8]
theorem Zvx {α:Type} {P:List α→Prop} (h0:P []) (h1:∀l x,P l→P (l++[x])) (l:List α):P l:=by
 have:∀r:List α,P r.reverse:=fun r=>by
  induction r with
  | nil=>exact h0
  | cons x r ih=>rw [List.reverse_cons];exact h1 _ _ ih
 have h:=this l.reverse
 rwa [List.reverse_reverse] at h
theorem Zqa (ns:List Str):Zf2 ns=true↔ns.Pairwise fun a b=>hit b a=false:=by
 refine Zvx (P:=fun ns:List Str=>Zf2 ns=true↔ns.Pairwise fun a b=>hit b a=false) (by simp [Zf2]) (fun ns n ih=>?_) ns
 rw [ZlL,Bool.and_eq_true,ih,List.all_eq_true,List.pairwise_append]
 constructor
 ·rintro ⟨h1,h2⟩
  refine ⟨h1,by simp,fun a ha b hb=>?_⟩
  have:b=n:=by simpa using hb
  subst this
  have:=h2 a ha
  rwa [Bool.not_eq_true'] at this
 ·rintro ⟨h1,_,h2⟩
  exact ⟨h1,fun a ha=>by rw [Bool.not_eq_true'];exact h2 a ha n (by simp)⟩
def Apart (ns:List Str):Prop:=ns.Pairwise fun a b=>hit b a=false
theorem ZjX (es:List Fil):ZgB es=true↔(∀e∈es,Zcq e=true)∧es.length≤6∧Apart (es.map Prod.fst):=by
 unfold ZgB
 simp only [Bool.and_eq_true,List.all_eq_true,decide_eq_true_eq,Zqa]
 rfl
theorem Znh (ns:List Str):Zf2 ns=true↔Apart ns:=Zqa ns
end Ev
end
section
namespace Ev
open Go
def Zjl (es:List Fil) (n:Str):Bool:=es.any fun e=>hit n e.1
theorem ZuG (a n:Str):hit n a=(a==n||(Zfc a n||Zfc n a)):=by
 unfold hit
 rw [ZhZ,ZhZ]
 congr 1
 rw [Bool.eq_iff_iff,beq_iff_eq,beq_iff_eq]
 exact eq_comm
theorem ZmI (es:List Fil) (n:Str) (hn:es.length≤1048576):∀(j i:Nat),i+j=es.length→
  ZbU.l0 (j+1) (es,n,(i:Int))=some (if Zjl (es.drop i) n then .inr true else .inl ())
 | 0,i,h=>by
  rw [ZbU.l0.succ];simp only [ZbU.l0.step]
  rw [Za0 (by omega),List.drop_eq_nil_of_le (by omega)];rfl
 | j+1,i,h=>by
  have hi:i<es.length:=by omega
  rw [ZbU.l0.succ];simp only [ZbU.l0.step]
  rw [ZaZ hi,cond_true,Zab _ ZaE,Zab _ ZaE,Zab _ ZaE,Int.toNat_natCast,ZnZ es i hi,Zi2,Zi2,Zaf (by omega) (by omega),show (i:Int)+1=((i+1:Nat):Int) by omega,ZmI es n hn j (i+1) (by omega)]
  simp only [Zaa]
  have hc:Zjl (es.drop i) n=(hit n es[i].1||Zjl (es.drop (i+1)) n):=by unfold Zjl;rw [List.drop_eq_getElem_cons hi,List.any_cons]
  rw [hc,ZuG]
  cases es[i].1==n<;>cases Zfc es[i].1 n<;>cases Zfc n es[i].1<;>cases Zjl (es.drop (i+1)) n<;>rfl
theorem ZsX (es:List Fil) (n:Str) (hn:es.length≤1048576):ZbU es n=some (Zjl es n):=by
 have h:=ZmI es n hn es.length 0 (by omega)
 rw [show ((0:Nat):Int)=0 from rfl,List.drop_zero] at h
 unfold ZbU
 rw [ZaJ,h]
 cases Zjl es n<;>rfl
theorem Zvi (es:List Fil) (n:Str) (h:Zf2 (es.map Prod.fst)=true):Zf2 (es.map Prod.fst++[n])= !Zjl es n:=by
 rw [ZlL,h,Bool.true_and]
 unfold Zjl
 rw [List.all_map]
 induction es with
 | nil=>rfl
 | cons e r ih=>
  have hr:Zf2 (r.map Prod.fst)=true:=by
   rw [Znh] at h ⊢
   exact (List.pairwise_cons.1 h).2
  rw [List.all_cons,List.any_cons,ih hr,Bool.not_or];rfl
def addC (es:List Fil) (e:Fil):Int:=if Zcq e=false then 1 else if Zjl es e.1=true then 3 else if 6≤es.length then 4 else 0
theorem Zss {es:List Fil} (h:ZgB es=true):Zf2 (es.map Prod.fst)=true:=by
 unfold ZgB at h
 simp only [Bool.and_eq_true] at h
 exact h.2.2
theorem Zv5 (es:List Fil) (hn:es.length≤1000) (e:Fil) (he:e.1.length≤1048576):Zh8 e.1 e.2.1 e.2.2.1 e.2.2.2.1 e.2.2.2.2.1 e.2.2.2.2.2.1 e.2.2.2.2.2.2.1 e.2.2.2.2.2.2.2 es=some (addC es e,if addC es e=0 then es++[e] else es):=by
 unfold Zh8 addC
 rw [Zoy e he]
 simp only [Zaa]
 cases hf:Zcq e with
 | false=>rfl
 | true=>
  simp only [Bool.not_true,cond_false]
  rw [ZsX es e.1 (by omega)]
  simp only [Zaa]
  cases Zjl es e.1 with
  | true=>rfl
  | false=>
   rw [cond_false]
   by_cases h6:6≤es.length
   ·rw [decide_eq_true (by omega),cond_true];simp [h6]
   ·rw [decide_eq_false (by omega),cond_false,Zad (by simp;omega),Zad (by simp;omega),List.nil_append]
    simp [h6]
theorem ZwG {es:List Fil} (h:ZgB es=true) {e:Fil} (hc:addC es e=0):ZgB (es++[e])=true∧Zcq e=true∧Zjl es e.1=false∧es.length<6:=by
 unfold addC at hc
 cases hf:Zcq e with
 | false=>rw [hf] at hc;simp at hc
 | true=>
  rw [hf] at hc
  cases hcl:Zjl es e.1 with
  | true=>rw [hcl] at hc;simp at hc
  | false=>
   rw [hcl] at hc
   have h6:es.length<6:=by
    rcases Nat.lt_or_ge es.length 6 with q | q
    ·exact q
    ·simp [q] at hc
   refine ⟨?_,rfl,rfl,h6⟩
   obtain ⟨g1,g2,g3⟩:=(ZjX es).1 h
   rw [ZjX]
   refine ⟨fun x hx=>?_,by simp;omega,?_⟩
   ·rcases List.mem_append.1 hx with hx | hx
    ·exact g1 x hx
    ·have:x=e:=by simpa using hx
     subst this;exact hf
   ·rw [List.map_append,List.map_cons,List.map_nil]
    exact (Znh _).1 (by rw [Zvi es e.1 (Zss h),hcl];rfl)
end Ev
end
section
namespace Ev
open Go
theorem ZtN (xs:List Int) {b:List Int} {p:Int} (h:Zqe b p) (hp:p≤1000000000) (hx:0<xs.length) (hx2:xs.length≤1000000000):Ret (Zgv xs b p) (Zqg b p 1 fun x=>x∈xs):=by
 unfold Zgv
 refine .bind (ZnH _ h hp (by omega)) ?_
 rintro ⟨r,b',p'⟩ ⟨rfl,rfl,h0,h1⟩
 dsimp only at h0 h1 ⊢
 have hlt:r<xs.length:=by omega
 ((try simp (disch:=omega) only [Zan,Zal,Zak,Zad,Zas,ZaN,Zaf,Zaz,Zaw,Zae,Option.map_some,cond_true,cond_false,Int.sub_zero,Int.toNat_natCast]);(try simp only [Zbj,Zdo,Zdp,Zat,Zbs,if_true,if_false]))
 refine .pure ⟨rfl,by dsimp only;omega,by dsimp only;omega,?_⟩
 dsimp only
 rw [Zam (by omega)]
 exact List.getElem_mem _
theorem Zxt (y mo:Int):∃n,Zm8 y mo=some n∧28≤n:=by
 unfold Zm8
 cases (mo==4)<;>cases (mo==6)<;>cases (mo==9)<;>cases (mo==11)<;>simp only [cond_true,cond_false,Zaa]<;>first
  | exact ⟨30,rfl,by omega⟩
  | (cases (mo==2)<;>simp only [cond_true,cond_false,Zaa]<;>first
    | exact ⟨31,rfl,by omega⟩
    | (cases (y.tmod 4==0)<;>simp only [cond_true,cond_false,Zaa]<;>first
      | exact ⟨28,rfl,by omega⟩
      | (cases (y.tmod 100 != 0)<;>simp only [cond_true,cond_false,Zaa]<;>first
        | exact ⟨29,rfl,by omega⟩
        | (cases (y.tmod 400==0)<;>first
          | exact ⟨29,rfl,by omega⟩
          | exact ⟨28,rfl,by omega⟩))))
theorem Zww (y mo:Int):28≤Zl3 y mo:=by
 obtain ⟨n,h,h2⟩:=Zxt y mo
 unfold Zl3;rw [h];exact h2
theorem ZwJ {y mo d h mi s:Int} (h1:1980≤y∧y≤2107) (h2:1≤mo∧mo≤12) (h3:1≤d∧d≤28) (h4:0≤h∧h≤23) (h5:0≤mi∧mi≤59) (h6:0≤s∧s≤58) (h7:s%2=0):stM y mo d h mi s=true:=by
 have:=Zww y mo
 unfold stM
 rw [decide_eq_true h1,decide_eq_true h2,decide_eq_true (⟨h3.1,by omega⟩:1≤d∧d≤Zl3 y mo),decide_eq_true h4,decide_eq_true h5,decide_eq_true h6,Zaz (by omega),h7]
 rfl
def DrawnS (b:List Int) (p c:Int) (Q:Int→Int→Int→Int→Int→Int→Prop) (r:Int×Int×Int×Int×Int×Int×List Int×Int):Prop:=∃y mo d h mi s p',r=(y,mo,d,h,mi,s,b,p')∧p≤p'∧p'≤p+c∧Q y mo d h mi s
theorem ZmR {b:List Int} {p:Int} (h:Zqe b p) (hp:p≤900000000):Ret (Zcp b p) (DrawnS b p 6 fun y mo d h mi s=>stM y mo d h mi s=true):=by
 unfold Zcp
 refine .bind (ZtN _ h (by omega) (by decide) (by decide)) ?_
 rintro ⟨y,b1,p1⟩ ⟨rfl,g1,g2,g3⟩
 dsimp only at g1 g2 g3 ⊢
 refine .bind (ZfL 12 (h.up g1) (by omega) (by omega) (by omega)) ?_
 rintro ⟨mo,b2,p2⟩ ⟨rfl,k1,k2,k3⟩
 dsimp only at k1 k2 k3 ⊢
 refine .bind (ZfL 28 ((h.up g1).up k1) (by omega) (by omega) (by omega)) ?_
 rintro ⟨d,b3,p3⟩ ⟨rfl,l1,l2,l3⟩
 dsimp only at l1 l2 l3 ⊢
 refine .bind (ZfL 24 (((h.up g1).up k1).up l1) (by omega) (by omega) (by omega)) ?_
 rintro ⟨hh,b4,p4⟩ ⟨rfl,m1,m2,m3⟩
 dsimp only at m1 m2 m3 ⊢
 refine .bind (ZfL 60 ((((h.up g1).up k1).up l1).up m1) (by omega) (by omega) (by omega)) ?_
 rintro ⟨mi,b5,p5⟩ ⟨rfl,n1,n2,n3⟩
 dsimp only at n1 n2 n3 ⊢
 refine .bind (ZfL 30 (((((h.up g1).up k1).up l1).up m1).up n1) (by omega) (by omega) (by omega)) ?_
 rintro ⟨s,b6,p6⟩ ⟨rfl,o1,o2,o3⟩
 dsimp only at o1 o2 o3 ⊢
 rw [Zaf (by omega) (by omega),Zaf (by omega) (by omega),Zaf (by omega) (by omega)]
 refine .pure ⟨y,_,_,hh,mi,_,p6,rfl,by omega,by omega,?_⟩
 have hy:1980≤y∧y≤2107:=by
  simp only [List.mem_cons,List.not_mem_nil,or_false] at g3
  rcases g3 with rfl | rfl | rfl | rfl<;>omega
 exact ZwJ hy (by omega) (by omega) (by omega) (by omega) (by omega) (by omega)
def entZ (e:Fil) (b:List Int) (p:Int):Str×Int×Int×Int×Int×Int×Int×Str×List Int×Int:=(e.1,e.2.1,e.2.2.1,e.2.2.2.1,e.2.2.2.2.1,e.2.2.2.2.2.1,e.2.2.2.2.2.2.1,e.2.2.2.2.2.2.2,b,p)
def DrawnE (b:List Int) (p c:Int) (Q:Fil→Prop) (r:Str×Int×Int×Int×Int×Int×Int×Str×List Int×Int):Prop:=∃e p',r=entZ e b p'∧p≤p'∧p'≤p+c∧Q e
def FilSm (e:Fil):Prop:=e.1∈ZvU∧e.txt.length≤301
theorem FilSm.len {e:Fil} (h:FilSm e):e.1.length≤11:=Zt7 _ h.1
def DrawnL (b:List Int) (p c:Int) (Q:List Fil→Prop) (r:List Int×Int×List Fil):Prop:=r.1=b∧p≤r.2.1∧r.2.1≤p+c∧Q r.2.2
theorem ZuS (k:Nat) (hk:k<6) {y mo d h mi s:Int} (hs:stM y mo d h mi s=true):Zev (k:Int)=some [UInt8.ofNat (48+k)]∧[102]++[UInt8.ofNat (48+k)]∈ZvU∧Zcq ([102]++[UInt8.ofNat (48+k)],y,mo,d,h,mi,s,[])=true:=by
 have h1:Zev (k:Int)=some [UInt8.ofNat (48+k)]∧[102]++[UInt8.ofNat (48+k)]∈ZvU∧Zdh ([102]++[UInt8.ofNat (48+k)])=true:=by
  rcases k with _ | _ | _ | _ | _ | _ | k
  ·exact ⟨by decide +kernel,by decide,by decide +kernel⟩
  ·exact ⟨by decide +kernel,by decide,by decide +kernel⟩
  ·exact ⟨by decide +kernel,by decide,by decide +kernel⟩
  ·exact ⟨by decide +kernel,by decide,by decide +kernel⟩
  ·exact ⟨by decide +kernel,by decide,by decide +kernel⟩
  ·exact ⟨by decide +kernel,by decide,by decide +kernel⟩
  ·omega
 refine ⟨h1.1,h1.2.1,?_⟩
 unfold Zcq
 dsimp only
 rw [h1.2.2,hs];rfl
def Zvl (xs:List Int):Prop:=∀x∈xs,0≤x∧x≤255
theorem Zwb (xs:List Int) (h:Zvl xs) (hl:xs.length≤1048576):Ret (Zfp xs) fun r=>r.2=0∧Zqe r.1 r.2:=by
 unfold Zfp
 by_cases c:xs.length>2000
 ·rw [decide_eq_true (by omega),cond_true,Zab _ (by simp;omega)]
  refine .pure ⟨rfl,?_,fun x hx=>h x (List.mem_of_mem_take hx),by omega⟩
  rw [List.length_take];exact Nat.min_le_left ..
 ·rw [decide_eq_false (by omega),cond_false]
  exact .pure ⟨rfl,by dsimp only;omega,h,by omega⟩
end Ev
end
section
namespace Ev
open Go
def ZsO:List Str:=[[97],[98,46,116,120,116],[100,105,114,47,97],[100,105,114,47,98],[120,45,121,95,122],[97,47,98,47,99,47,100],[114,101,97,100,109,101]]
def Zwn (k:Nat):Str:=[102]++[UInt8.ofNat (48+k)]
theorem ZsN:∀a∈ZsO,∀k∈List.range 6,hit (Zwn k) a=false:=by decide
theorem ZuT:∀m∈List.range 6,∀k∈List.range 6,m<k→hit (Zwn k) (Zwn m)=false:=by decide
theorem Zuy {b:List Int} {p:Int} (h:Zqe b p) (hp:p≤900000000):Ret (ZdU b p) (Zqg b p 1 fun s=>Zdh s=true∧s∈ZsO):=by
 unfold ZdU
 refine .bind (ZtO _ h (by omega) (by decide) (by decide)) ?_
 rintro ⟨x,b2,p2⟩ ⟨rfl,k1,k2,k3⟩
 dsimp only at k1 k2 k3 ⊢
 refine .pure ⟨rfl,k1,k2,?_⟩
 dsimp only
 simp only [List.mem_cons,List.not_mem_nil,or_false] at k3
 rcases k3 with rfl | rfl | rfl | rfl | rfl | rfl | rfl<;>exact ⟨by decide +kernel,by decide⟩
theorem Zs3 {b:List Int} {p:Int} (h:Zqe b p) (hp:p≤800000000):Ret (Zdb b p) (DrawnE b p 57 fun e=>Zcq e=true∧e.1∈ZsO):=by
 unfold Zdb
 refine .bind (Zuy h (by omega)) ?_
 rintro ⟨nm,b1,p1⟩ ⟨rfl,g1,g2,g3⟩
 dsimp only at g1 g2 g3 ⊢
 refine .bind (ZmR (h.up g1) (by omega)) ?_
 rintro _ ⟨y,mo,d,hh,mi,s,p2,rfl,k1,k2,k3⟩
 dsimp only
 refine .bind (Zux ((h.up g1).up k1) (by omega)) ?_
 rintro ⟨t,b3,p3⟩ ⟨rfl,l1,l2,l3⟩
 dsimp only at l1 l2 l3 ⊢
 refine .pure ⟨(nm,y,mo,d,hh,mi,s,t),p3,rfl,by omega,by omega,?_,g3.2⟩
 unfold Zcq
 dsimp only
 rw [g3.1,k3,decide_eq_true l3];rfl
theorem ZmT {b:List Int}:∀(j:Nat) (out:List Fil) (p:Int),Zqe b p→p≤1000000+57*(4-j)→j≤4→out.length+j≤4→(ZgB out=true∧∀e∈out,e.1∈ZsO)→
  Ret (Zba.l0 (j+1) ((j:Int),b,p,out)) fun r=>r.1=b∧p≤r.2.1∧r.2.1≤p+57*j∧r.2.2.length≤4∧ZgB r.2.2=true∧∀e∈r.2.2,e.1∈ZsO
 | 0,out,p,h,hp,hj,hl,ho=>by
  rw [Zba.l0.succ];simp only [Zba.l0.step]
  rw [decide_eq_false (by omega)]
  exact .pure ⟨rfl,by dsimp only;omega,by dsimp only;omega,by dsimp only;omega,ho⟩
 | j+1,out,p,h,hp,hj,hl,ho=>by
  rw [Zba.l0.succ];simp only [Zba.l0.step]
  rw [decide_eq_true (by omega),cond_true]
  refine .bind (Zs3 h (by omega)) ?_
  rintro _ ⟨e,p1,rfl,g1,g2,g3⟩
  unfold entZ
  dsimp only
  have hnl:=Zdg (Zcl g3.1).1
  rw [Zv5 out (by omega) e (by omega)]
  simp only [Zaa]
  rw [Zaf (by omega) (by omega),show ((j+1:Nat):Int)-1=(j:Int) by omega]
  refine (ZmT j _ p1 (h.up g1) (by omega) (by omega) ?_ ?_).mono ?_
  ·split
   ·simp;omega
   ·omega
  ·split
   ·rename_i hc
    refine ⟨(ZwG ho.1 hc).1,fun x hx=>?_⟩
    rcases List.mem_append.1 hx with hx | hx
    ·exact ho.2 x hx
    ·have:x=e:=by simpa using hx
     subst this;exact g3.2
   ·exact ho
  ·rintro r ⟨q1,q2,q3,q4,q5⟩
   exact ⟨q1,by omega,by omega,q4,q5⟩
theorem Zvt {es:List Fil} {e:Fil} (h:ZgB es=true) (h6:es.length<6) (hf:Zcq e=true) (hn:∀x∈es,hit e.1 x.1=false):ZgB (es++[e])=true:=by
 obtain ⟨h1,h2,h3⟩:=(ZjX es).1 h
 rw [ZjX]
 refine ⟨fun x hx=>?_,by simp;omega,?_⟩
 ·rcases List.mem_append.1 hx with hx | hx
  ·exact h1 x hx
  ·have:x=e:=by simpa using hx
   subst this;exact hf
 ·rw [List.map_append]
  refine List.pairwise_append.2 ⟨h3,by simp,fun a ha b hb=>?_⟩
  have:b=e.1:=by simpa using hb
  subst this
  obtain ⟨x,hx,rfl⟩:=List.mem_map.1 ha
  exact hn x hx
theorem ZmS {b:List Int}:∀(j k:Nat) (out:List Fil) (p:Int),k+j=6→Zqe b p→p≤2000000+6*(6-j)→out.length=k→ZgB out=true→(∀e∈out,e.1∈ZsO∨∃m,m<k∧e.1=Zwn m)→
  Ret (Zba.l1 (j+1) ((k:Int),b,p,out)) fun r=>r.1=b∧p≤r.2.1∧r.2.1≤p+6*j∧ZgB r.2.2=true
 | 0,k,out,p,hk,h,hp,hl,hz,ho=>by
  rw [Zba.l1.succ];simp only [Zba.l1.step]
  rw [decide_eq_false (by omega)]
  exact .pure ⟨rfl,by dsimp only;omega,by dsimp only;omega,hz⟩
 | j+1,k,out,p,hk,h,hp,hl,hz,ho=>by
  rw [Zba.l1.succ];simp only [Zba.l1.step]
  have hd:=(ZuS k (by omega) (ZwJ (y:=1980) (mo:=1) (d:=1) (h:=0) (mi:=0) (s:=0) (by omega) (by omega) (by omega) (by omega) (by omega) (by omega) (by omega))).1
  rw [decide_eq_true (by omega),cond_true,hd]
  simp only [Zaa]
  rw [Zad (by simp)]
  refine .bind (ZmR h (by omega)) ?_
  rintro _ ⟨y,mo,d,hh,mi,s,p1,rfl,g1,g2,g3⟩
  dsimp only
  have hf:=(ZuS k (by omega) g3).2
  rw [Zad (by simp;omega),Zaf (by omega) (by omega),show (k:Int)+1=((k+1:Nat):Int) by omega]
  refine (ZmS j (k+1) _ p1 (by omega) (h.up g1) (by omega) (by simp;omega) ?_ ?_).mono ?_
  ·refine Zvt hz (by omega) hf.2 (fun x hx=>?_)
   rcases ho x hx with q | ⟨m,hm,q⟩
   ·exact ZsN x.1 q k (List.mem_range.2 (by omega))
   ·rw [q];exact ZuT m (List.mem_range.2 (by omega)) k (List.mem_range.2 (by omega)) hm
  ·intro x hx
   rcases List.mem_append.1 hx with hx | hx
   ·rcases ho x hx with q | ⟨m,hm,q⟩
    ·exact .inl q
    ·exact .inr ⟨m,by omega,q⟩
   ·have:x=([102]++[UInt8.ofNat (48+k)],y,mo,d,hh,mi,s,[]):=by simpa using hx
    subst this;exact .inr ⟨k,by omega,rfl⟩
  ·rintro r ⟨q1,q2,q3,q4⟩
   exact ⟨q1,by omega,by omega,q4⟩
theorem Zuz {b:List Int} {p:Int} (h:Zqe b p) (hp:p≤1000):Ret (Zba b p) (DrawnL b p 300 fun es=>ZgB es=true):=by
 unfold Zba
 refine .bind (ZfL 5 h (by omega) (by omega) (by omega)) ?_
 rintro ⟨n,b1,p1⟩ ⟨rfl,g1,g2,g3⟩
 dsimp only at g1 g2 g3 ⊢
 obtain ⟨n,rfl⟩:=Int.eq_ofNat_of_zero_le g3.1
 rw [show ((n:Int)-0).toNat+1=n+1 by omega]
 refine .bind (ZmT n [] p1 (h.up g1) (by omega) (by omega) (by simp;omega) ⟨rfl,by simp⟩) ?_
 rintro ⟨b2,p2,out⟩ ⟨rfl,k1,k2,k3,k4,k5⟩
 dsimp only at k1 k2 k3 k4 k5 ⊢
 refine .bind (ZfL 24 ((h.up g1).up k1) (by omega) (by omega) (by omega)) ?_
 rintro ⟨x,b3,p3⟩ ⟨rfl,l1,l2,l3⟩
 dsimp only at l1 l2 l3 ⊢
 refine .cond (fun _=>?_) fun _=>.pure ⟨rfl,by dsimp only;omega,by dsimp only;omega,k4⟩
 rw [show (6-((out.length:Nat):Int)).toNat+1=(6-out.length)+1 by omega]
 refine .bind (ZmS (6-out.length) out.length out p3 (by omega) (((h.up g1).up k1).up l1) (by omega) rfl k4 (fun e he=>.inl (k5 e he))) ?_
 rintro ⟨b4,p4,out2⟩ ⟨rfl,m1,m2,m3⟩
 dsimp only at m1 m2 m3 ⊢
 exact .pure ⟨rfl,by dsimp only;omega,by dsimp only;omega,m3⟩
theorem ZrS {b:List Int} {p:Int} (h:Zqe b p) (hp:p≤1000):Ret (Ze9 b p) (Zqg b p 300 fun s=>∃es,ZgB es=true∧s=Znl es):=by
 unfold Ze9
 refine .bind (Zuz h hp) ?_
 rintro ⟨b1,p1,es⟩ ⟨rfl,g1,g2,g3⟩
 dsimp only at g1 g2 g3 ⊢
 rw [Zv6 es (by have:=(ZhT g3).2;omega) (ZhT g3).1]
 simp only [Zaa]
 exact .pure ⟨rfl,g1,g2,es,g3,rfl⟩
theorem Zl2 (xs:List Int) (h:Zvl xs) (hl:xs.length≤1048576):Ret (Zbv xs) fun r=>∃es fs,ZgB es=true∧ZgB fs=true∧r.1=Znl es∧r.2.1=[]∧r.2.2.1=Znl fs:=by
 unfold Zbv
 refine .bind (Zwb xs h hl) ?_
 rintro ⟨b,p⟩ ⟨rfl,hr⟩
 dsimp only at hr ⊢
 refine .bind (ZrS hr (by omega)) ?_
 rintro ⟨s,b1,p1⟩ ⟨rfl,g1,g2,es,g3,g4⟩
 dsimp only at g1 g2 g4 ⊢
 refine .bind (ZrS (hr.up g1) (by omega)) ?_
 rintro ⟨t,b2,p2⟩ ⟨rfl,k1,k2,fs,k3,k4⟩
 dsimp only at k1 k2 k4 ⊢
 refine .bind (ZfL 200 ((hr.up g1).up k1) (by omega) (by omega) (by omega)) ?_
 rintro ⟨x,b3,p3⟩ ⟨rfl,l1,l2,l3⟩
 dsimp only at l1 l2 l3 ⊢
 refine .bind (ZtN _ (((hr.up g1).up k1).up l1) (by omega) (by simp) (by simp)) ?_
 rintro ⟨y,b4,p4⟩ ⟨rfl,m1,m2,m3⟩
 dsimp only at m1 m2 m3 ⊢
 exact .pure ⟨es,fs,g3,k3,g4,rfl,k4⟩
end Ev
end
section
namespace Ev
open Go
theorem Zq6 (a b:Str):ZeG a b a b=some true:=by unfold ZeG;simp
end Ev
end
section
namespace Ev
open Go
abbrev dec (u:Nat):Str:=Lib.decDigits u
theorem Zio {u:Nat} (h:u<10):dec u=[UInt8.ofNat (48+u)]:=by unfold dec;rw [Lib.decDigits,dif_pos h]
theorem Zu2 {u:Nat} (h:¬u<10):dec u=dec (u/10)++[UInt8.ofNat (48+u%10)]:=by unfold dec;rw [Lib.decDigits,dif_neg h]
theorem Zq2:∀(k u:Nat),u<10^(k+1)→1≤(dec u).length∧(dec u).length≤k+1
 | 0,u,h=>by rw [Zio (by simpa using h)];simp
 | k+1,u,h=>by
  by_cases c:u<10
  ·rw [Zio c];simp
  ·have:=Zq2 k (u/10) (by rw [Nat.pow_succ] at h;omega)
   rw [Zu2 c,List.length_append,List.length_cons,List.length_nil];omega
theorem Zoa (d:Nat) (h:d<10):ZbM [IntKind.wrap .u8 (w64 (48+(d:Int)))]=[UInt8.ofNat (48+d)]:=by
 rw [Zaf (by omega) (by omega),show 48+(d:Int)=((48+d:Nat):Int) by omega,wrap_u8 _ (by omega)]
 rfl
theorem Zpv:∀(k u:Nat),u<10^(k+1)→u<9223372036854775808→k≤100→Zk4 (k+1) (u:Int)=some (dec u)
 | 0,u,h,hb,hk=>by
  have h10:u<10:=by simpa using h
  rw [Zk4,decide_eq_false (by omega),cond_false,decide_eq_false (by omega),cond_false,decide_eq_true (by omega),cond_true,Zoa u h10,Zio h10]
 | k+1,u,h,hb,hk=>by
  rw [Zk4,decide_eq_false (by omega),cond_false,decide_eq_false (by omega),cond_false]
  by_cases c:u<10
  ·rw [decide_eq_true (by omega),cond_true,Zoa u c,Zio c]
  ·have hl:=Zq2 k (u/10) (by rw [Nat.pow_succ] at h;omega)
   rw [decide_eq_false (by omega),cond_false,Zaw (by omega),Zaf (n:=(u:Int)/10) (by omega) (by omega),Zaz (by omega),show (u:Int)/10=((u/10:Nat):Int) by omega,show (u:Int)%10=((u%10:Nat):Int) by omega,
    Zpv k (u/10) (by rw [Nat.pow_succ] at h;omega) (by omega) (by omega),Zoa _ (by omega)]
   simp only [Zaa]
   rw [Zad (by simp;omega),Zu2 c]
theorem Zwc (u:Nat) (h:u<9223372036854775808):Zev (u:Int)=some (dec u):=Zpv 29 u (by omega) h (by omega)
theorem Zwh (u:Nat) (h:u<9223372036854775808):itoa (u:Int)=some (dec u):=by
 unfold itoa Zxo
 rw [Zab _ (by simp;omega)]
 unfold Lib.itoa
 rw [if_neg (by omega),Int.toNat_natCast]
end Ev
end
section
namespace Ev
open Go
theorem ZvV (a b:Int):ZjH a b=min a b:=by
 unfold ZjH
 by_cases h:b<a
 ·rw [if_pos h];omega
 ·rw [if_neg h];omega
theorem ZvZ (a b:Int):Zmx a b=max a b:=by
 unfold Zmx
 by_cases h:a<b
 ·rw [if_pos h];omega
 ·rw [if_neg h];omega
def Zpb (text:Str):Str:=dec text.length++[10]++text
def ZfY (dt dl text:Str) (bytes:Int):Str×Str:=if Zn7 dt dl=true∧ZjU text=true then (dt,(Zpb text).take (min (max bytes 0) ((Zpb text).length:Int)).toNat) else ([],[])
theorem ZrC (text:Str) (h:text.length≤1048576):(dec text.length).length≤7∧(Zpb text).length=(dec text.length).length+1+text.length:=by
 refine ⟨(Zq2 6 text.length (by omega)).2,?_⟩
 unfold Zpb
 simp only [List.length_append,List.length_cons,List.length_nil]
theorem Zlv (dt dl text:Str) (bytes:Int) (h1:dt.length≤1048576) (h2:text.length≤1048576):ZcX dt dl text bytes=some (ZfY dt dl text bytes):=by
 unfold ZcX ZfY
 rw [ZpW dt dl h1,Zng text h2]
 simp only [Zaa]
 obtain ⟨hl,hlen⟩:=ZrC text h2
 cases hd:Zn7 dt dl with
 | false=>rw [if_neg (by simp)];rfl
 | true=>
  simp only [Bool.not_true,cond_false,Zaa]
  cases hz:ZjU text with
  | false=>rw [if_neg (by simp)];rfl
  | true=>
   rw [if_pos (by simp)]
   simp only [Bool.not_true,cond_false]
   rw [Zwh _ (by omega)]
   simp only [Zaa]
   rw [Zad (by simp;omega),Zad (by simp;omega)]
   show need (decide (0≤ZjH (Zmx bytes 0) ((Zpb text).length:Int))&&decide (ZjH (Zmx bytes 0) ((Zpb text).length:Int)≤((Zpb text).length:Int))) (some (dt,(Zpb text).take (ZjH (Zmx bytes 0) ((Zpb text).length:Int)).toNat))=_
   rw [ZvV,ZvZ,Zab _ (by simp only [Bool.and_eq_true,decide_eq_true_eq];omega)]
theorem Zku (dt dl text:Str) (bytes:Int) (h1:dt.length≤1048576) (h2:text.length≤1048576):Zbu dt dl text bytes=some (ZfY dt dl text bytes):=by
 unfold Zbu ZfY
 rw [ZnB dt dl h1,ZrI text h2]
 simp only [Zaa]
 obtain ⟨hl,hlen⟩:=ZrC text h2
 cases hd:Zn7 dt dl with
 | false=>rw [if_neg (by simp)];rfl
 | true=>
  simp only [Bool.not_true,cond_false,Zaa]
  cases hz:ZjU text with
  | false=>rw [if_neg (by simp)];rfl
  | true=>
   rw [if_pos (by simp)]
   simp only [Bool.not_true,cond_false]
   have hlog:Zh7 text=some (Zpb text):=by
    unfold Zh7 Zpb
    rw [Zwc _ (by omega)]
    simp only [Zaa]
    rw [Zad (by simp;omega),Zad (by simp;omega)]
   rw [hlog]
   simp only [Zaa]
   by_cases c0:bytes<0
   ·rw [decide_eq_true c0,cond_true]
    simp only [Zaa]
    rw [decide_eq_false (by omega),cond_false,Zab _ (by simp),show (min (max bytes 0) ((Zpb text).length:Int)).toNat=(0:Int).toNat by congr 1;omega]
   ·rw [decide_eq_false c0,cond_false]
    simp only [Zaa]
    by_cases c1:bytes>((Zpb text).length:Int)
    ·rw [decide_eq_true c1,cond_true,Zab _ (by simp),show min (max bytes 0) ((Zpb text).length:Int)=((Zpb text).length:Int) by omega]
    ·rw [decide_eq_false c1,cond_false,Zab _ (by simp only [Bool.and_eq_true,decide_eq_true_eq];omega),show min (max bytes 0) ((Zpb text).length:Int)=bytes by omega]
end Ev
end
section
namespace Ev
open Go
theorem ZuC {es:List Fil} (h:ZgB es=true):ZjU (Znl es)=true:=by unfold ZjU;rw [Zom es h];rfl
end Ev
end
section
namespace Ev
open Go
theorem Zws:ZgB [([46,46],0,0,0,0,0,0,[])]=false:=by decide +kernel
theorem ZlN (xs:List Int) (h:Zvl xs):FnDiskNone xs=some true:=by
 unfold FnDiskNone
 by_cases c:xs.length>1048576
 ·rw [decide_eq_true (by omega)];rfl
 rw [decide_eq_false (by omega),cond_false]
 obtain ⟨⟨dt,dl,text,bytes⟩,hd,es,fs,hze,hzf,rfl,rfl,rfl⟩:=Zl2 xs h (by omega)
 have hl1:=Zqm es hze
 have hl2:=Zqm fs hzf
 have hM:Zn7 (Znl es) []=true:=by unfold Zn7;rw [ZuC hze];rfl
 have hT:∀n,n≤0→ZfY (Znl es) [] (Znl fs) n=(Znl es,[]):=fun n hn=>by
  unfold ZfY
  rw [if_pos ⟨hM,ZuC hzf⟩,show (min (max n 0) ((Zpb (Znl fs)).length:Int)).toNat=0 by omega];rfl
 have hnew:ZdD [([46,46],0,0,0,0,0,0,[])]=some ([],[],false):=by
  rw [Zth _ (by simp) (by simp)]
  unfold Zn6
  rw [Zws];rfl
 rw [hd]
 simp only [Zaa]
 rw [Zlv _ _ _ _ (by omega) (by omega),hT 0 (by omega)]
 simp only [Zaa]
 rw [Zlv _ _ _ _ (by omega) (by omega),hT (-5) (by omega)]
 simp only [Zaa]
 rw [hnew]
 simp only [Zaa]
 rw [Zku _ _ _ _ (by omega) (by omega),hT 0 (by omega)]
 simp only [Zaa]
 rw [Zq6]
 simp only [Zaa,cond_true]
 rw [ZpW _ _ (by omega),hM]
 simp only [Zaa,cond_true,Bool.not_true,cond_false]
 rfl
end Ev
end
