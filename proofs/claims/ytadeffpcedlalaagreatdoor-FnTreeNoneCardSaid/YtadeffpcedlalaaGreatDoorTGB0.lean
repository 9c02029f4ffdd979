/- Plain laws about what the functions compute. Conditions: as stated. -/
import Derived.KernelRfl
import Derived.Test.YtadeffpcedlalaaGreatDoorTGP0
set_option linter.unusedVariables false
set_option linter.unusedSimpArgs false
section
namespace Ev
open Go
def Ret {α:Type} (x:Option α) (Q:α→Prop):Prop:=∃a,x=some a∧Q a
theorem Ret.pure {α:Type} {a:α} {Q:α→Prop} (h:Q a):Ret (some a) Q:=⟨a,rfl,h⟩
theorem Ret.of {α:Type} {x:Option α} {a:α} {Q:α→Prop} (e:x=some a) (h:Q a):Ret x Q:=⟨a,e,h⟩
theorem Ret.mono {α:Type} {x:Option α} {P Q:α→Prop} (h:Ret x P) (k:∀a,P a→Q a):Ret x Q:=by
 obtain ⟨a,e,q⟩:=h;exact ⟨a,e,k a q⟩
theorem Ret.bind {α β:Type} {x:Option α} {f:α→Option β} {P:α→Prop} {Q:β→Prop} (h:Ret x P) (k:∀a,P a→Ret (f a) Q):Ret (x.bind f) Q:=by
 obtain ⟨a,rfl,q⟩:=h;exact k a q
theorem Ret.need {α:Type} {b:Bool} {x:Option α} {Q:α→Prop} (h:b=true) (k:Ret x Q):Ret (Ev.need b x) Q:=by subst h;exact k
theorem Ret.cond {α:Type} {b:Bool} {x y:Option α} {Q:α→Prop} (h1:b=true→Ret x Q) (h0:b=false→Ret y Q):Ret (bif b then x else y) Q:=by
 cases b
 ·exact h0 rfl
 ·exact h1 rfl
theorem Ret.ite {α:Type} {p:Prop} [Decidable p] {x y:Option α} {Q:α→Prop} (h1:p→Ret x Q) (h0:¬p→Ret y Q):Ret (if p then x else y) Q:=by
 by_cases h:p
 ·rw [if_pos h];exact h1 h
 ·rw [if_neg h];exact h0 h
theorem Ret.map {α β:Type} {x:Option α} {f:α→β} {Q:β→Prop} (h:Ret x (fun a=>Q (f a))):Ret (x.map f) Q:=by
 obtain ⟨a,rfl,q⟩:=h;exact ⟨f a,rfl,q⟩
theorem Ret.loop {T σ:Type} {step:(T→Option σ)→T→Option σ} (Inv:T→Prop) (μ:T→Nat) (Q:T→σ→Prop)
  (h:∀again t,Inv t→(∀t',Inv t'→μ t'<μ t→Ret (again t') (Q t'))→Ret (step again t) (Q t)):∀n t,Inv t→μ t<n→Ret (ZaO step n t) (Q t)
 | 0,_,_,hn=>absurd hn (Nat.not_lt_zero _)
 | n+1,t,hi,hn=>h _ t hi fun t' hi' hm=>Ret.loop Inv μ Q h n t' hi' (by omega)
theorem Zq7 {T σ:Type} {step:(T→Option σ)→T→Option σ} (Inv:T→Prop) (μ:T→Nat) (g:T→σ)
  (h:∀again t,Inv t→(∀t',Inv t'→μ t'<μ t→again t'=some (g t'))→step again t=some (g t)):∀n t,Inv t→μ t<n→ZaO step n t=some (g t)
 | 0,_,_,hn=>absurd hn (Nat.not_lt_zero _)
 | n+1,t,hi,hn=>h _ t hi fun t' hi' hm=>Zq7 Inv μ g h n t' hi' (by omega)
theorem Zar {α:Type} {p q:Prop} [Decidable p] [Decidable q] {x:Option α} (hp:p) (hq:q):need (decide p&&decide q) x=x:=Zaa _ (by simp [hp,hq])
theorem Zap {α:Type} {p:Prop} [Decidable p] {x:Option α} (hp:p):need (decide p) x=x:=Zaa _ (by simp [hp])
theorem Zai {α:Type} {p:Prop} [Decidable p] {x:Option α} {n:Nat} (hp:p) (hn:n≤1099511627776):need (decide p&&fits n) x=x:=Zaa _ (by simp [hp,ZdB hn])
theorem Zad {α:Type} {n:Nat} {x:Option α} (h:n≤1099511627776):need (fits n) x=x:=Zaa _ (ZdB h)
theorem Zav {α:Type} {a b:Int} {x:Option α} (h:a≠b):need (a != b) x=x:=Zaa _ (by simp [h])
theorem ZaK {α:Type} {x:Option α}:need true x=x:=rfl
theorem Zbj {α:Type} (p:Prop) [Decidable p] (x y:α):(bif decide p then x else y)=if p then x else y:=by
 by_cases h:p<;>simp [h]
theorem Zc1 {α β:Type} [BEq β] [LawfulBEq β] [DecidableEq β] (a b:β) (x y:α):(bif a==b then x else y)=if a=b then x else y:=by
 by_cases h:a=b
 ·simp [h]
 ·rw [if_neg h,beq_false_of_ne h];rfl
theorem Zc2 {α β:Type} [BEq β] [LawfulBEq β] [DecidableEq β] (a b:β) (x y:α):(bif a != b then x else y)=if a=b then y else x:=by
 by_cases h:a=b
 ·simp [h]
 ·rw [if_neg h,bne,beq_false_of_ne h];rfl
theorem Zbn {α:Type} (b:Bool) (x y:α):(bif !b then x else y)=bif b then y else x:=by cases b<;>rfl
theorem Zaw {α:Type} (p:Prop) [Decidable p] (x y:α):(bif !decide p then x else y)=if p then y else x:=by
 by_cases h:p<;>simp [h]
theorem ZaC {a b:Int} (h:0≤a):a.tmod b=a%b:=Int.tmod_eq_emod_of_nonneg h
theorem ZaD {a b:Int} (h:0≤a):a.tdiv b=a/b:=Int.tdiv_eq_ediv_of_nonneg h
theorem Zae {α β:Type} (a:α) (f:α→Option β):(some a).bind f=f a:=rfl
theorem Zam {α:Type} {l:List α} {i:Nat} {d:α} (h:i<l.length):l.getD i d=l[i]:=by simp [List.getD,h]
end Ev
end
section
namespace Ev
open Go
theorem Zeg {n:Int} (h1:-9223372036854775808≤n) (h2:n≤9223372036854775807):IntKind.i64.wrap n=n:=Zaf h1 h2
theorem ZsM (x y:Nat) (hx:x<4611686018427387904) (hy:y<4611686018427387904):Zlr .i64 (x:Int) (y:Int)=((x^^^y:Nat):Int):=by
 have hz:x^^^y<2^62:=Nat.xor_lt_two_pow (by omega) (by omega)
 unfold Zlr
 have e:(BitVec.ofInt IntKind.i64.bits (x:Int)^^^BitVec.ofInt IntKind.i64.bits (y:Int)).toNat=x^^^y:=by
  simp only [BitVec.ofInt_natCast,BitVec.toNat_xor,BitVec.toNat_ofNat,show IntKind.i64.bits=64 from rfl]
  rw [Nat.mod_eq_of_lt (by omega),Nat.mod_eq_of_lt (by omega)]
 rw [e,Zeg (by omega) (by omega)]
theorem ZsL {x y:Int} (hx:0≤x) (hx2:x<4611686018427387904) (hy:0≤y) (hy2:y<4611686018427387904):0≤Zlr .i64 x y:=by
 obtain ⟨a,rfl⟩:=Int.eq_ofNat_of_zero_le hx
 obtain ⟨b,rfl⟩:=Int.eq_ofNat_of_zero_le hy
 rw [ZsM a b (by omega) (by omega)];omega
def ZoS (b:List Int) (p:Int):Prop:=b.length≤2000∧(∀x,x∈b→0≤x∧x≤255)∧0≤p
theorem ZoS.up {b:List Int} {p q:Int} (h:ZoS b p) (hq:p≤q):ZoS b q:=⟨h.1,h.2.1,by have:=h.2.2;omega⟩
theorem ZiR {b:List Int} (h:∀x,x∈b→0≤x∧x≤255) (i:Nat):0≤b.getD i 0∧b.getD i 0≤255:=by
 by_cases hi:i<b.length
 ·rw [Zam hi];exact h _ (List.getElem_mem hi)
 ·have:b.getD i 0=0:=by simp [List.getD,List.getElem?_eq_none (by omega:b.length≤i)]
  rw [this];omega
theorem Zod (n:Int) {b:List Int} {p:Int} (h:ZoS b p) (hp:p≤1000000000) (hn:n≤1000000000) :
  Ret (pick n b p) fun r=>r.2.1=b∧r.2.2=p+1∧0≤r.1∧(r.1<n∨(r.1=0∧(n<1∨b=[]))):=by
 obtain ⟨h1,h2,h3⟩:=h
 unfold pick
 ((try simp (disch:=omega) only [Zar,Zap,Zai,Zad,Zav,ZaK,Zaf,ZaC,ZaD,Zae,Option.map_some,cond_true,cond_false,Int.sub_zero,Int.toNat_natCast]);(try simp only [Zbj,Zc1,Zc2,Zaw,Zbn,if_true,if_false]))
 by_cases hn1:n<1
 ·simp only [if_pos hn1,Zae,cond_true]
  exact .pure ⟨rfl,rfl,by omega,.inr ⟨rfl,.inl hn1⟩⟩
 ·by_cases hb:b=[]
  ·subst hb
   simp only [if_neg hn1,Zae,List.length_nil,show (((0:Nat):Int)==0)=true from rfl,cond_true]
   exact .pure ⟨rfl,rfl,by omega,.inr ⟨rfl,.inr trivial⟩⟩
  ·have hl:0<b.length:=List.length_pos_iff.2 hb
   have e:((b.length:Int)==0)=false:=by simp;omega
   have hpp:p+1-1=p:=by omega
   simp only [if_neg hn1,Zae,e,cond_false,hpp]
   have hbl:(b.length:Int)≠0:=by omega
   have m1:0≤p%(b.length:Int):=Int.emod_nonneg _ hbl
   have m2:p%(b.length:Int)<b.length:=Int.emod_lt_of_pos _ (by omega)
   have m3:0≤(p*7+3)%(b.length:Int):=Int.emod_nonneg _ hbl
   have m4:(p*7+3)%(b.length:Int)<b.length:=Int.emod_lt_of_pos _ (by omega)
   have m5:0≤p/(b.length:Int):=Int.ediv_nonneg h3 (by omega)
   have m6:p/(b.length:Int)≤p:=Int.ediv_le_self _ h3
   refine .ite (fun hlt=>?_) fun hlt=>?_
   ·have g:=ZiR h2 p.toNat
    ((try simp (disch:=omega) only [Zar,Zap,Zai,Zad,Zav,ZaK,Zaf,ZaC,ZaD,Zae,Option.map_some,cond_true,cond_false,Int.sub_zero,Int.toNat_natCast]);(try simp only [Zbj,Zc1,Zc2,Zaw,Zbn,if_true,if_false]))
    refine .pure ⟨rfl,rfl,Int.emod_nonneg _ (by omega),.inl (Int.emod_lt_of_pos _ (by omega))⟩
   ·((try simp (disch:=omega) only [Zar,Zap,Zai,Zad,Zav,ZaK,Zaf,ZaC,ZaD,Zae,Option.map_some,cond_true,cond_false,Int.sub_zero,Int.toNat_natCast]);(try simp only [Zbj,Zc1,Zc2,Zaw,Zbn,if_true,if_false]))
    have g1:=ZiR h2 (p%(b.length:Int)).toNat
    have g2:=ZiR h2 ((p*7+3)%(b.length:Int)).toNat
    generalize b.getD (p%(b.length:Int)).toNat 0=x at *
    generalize b.getD ((p*7+3)%(b.length:Int)).toNat 0=y at *
    generalize p/(b.length:Int)=z at *
    ((try simp (disch:=omega) only [Zar,Zap,Zai,Zad,Zav,ZaK,Zaf,ZaC,ZaD,Zae,Option.map_some,cond_true,cond_false,Int.sub_zero,Int.toNat_natCast]);(try simp only [Zbj,Zc1,Zc2,Zaw,Zbn,if_true,if_false]))
    have hx:=ZsL (x:=x*131+y*1117+p*29+z*53) (y:=(x*131+y*1117+p*29+z*53)/64) (by omega) (by omega) (by omega) (by omega)
    ((try simp (disch:=omega) only [Zar,Zap,Zai,Zad,Zav,ZaK,Zaf,ZaC,ZaD,Zae,Option.map_some,cond_true,cond_false,Int.sub_zero,Int.toNat_natCast]);(try simp only [Zbj,Zc1,Zc2,Zaw,Zbn,if_true,if_false]))
    refine .pure ⟨rfl,rfl,Int.emod_nonneg _ (by omega),.inl (Int.emod_lt_of_pos _ (by omega))⟩
theorem Zsn (xs:List Str) {b:List Int} {p:Int} (h:ZoS b p) (hp:p≤1000000000) (hx:0<xs.length) (hx2:xs.length≤1000000000) :
  Ret (ZhQ xs b p) fun r=>r.2.1=b∧r.2.2=p+1∧r.1∈xs:=by
 unfold ZhQ
 refine .bind (Zod _ h hp (by omega)) ?_
 rintro ⟨r,b',p'⟩ ⟨rfl,rfl,h0,h1⟩
 dsimp only at h0 h1 ⊢
 have hlt:r<xs.length:=by omega
 ((try simp (disch:=omega) only [Zar,Zap,Zai,Zad,Zav,ZaK,Zaf,ZaC,ZaD,Zae,Option.map_some,cond_true,cond_false,Int.sub_zero,Int.toNat_natCast]);(try simp only [Zbj,Zc1,Zc2,Zaw,Zbn,if_true,if_false]))
 refine .pure ⟨rfl,rfl,?_⟩
 rw [Zam (by omega)]
 exact List.getElem_mem _
end Ev
end
section
namespace Ev
open Go
theorem ZdQ (n k:Nat) (hk:k≤64):Zju .i64 (n:Int) (k:Int)=((n/2^k:Nat):Int):=by
 unfold Zju
 rw [Int.toNat_natCast,show min k IntKind.i64.bits=k from Nat.min_eq_left hk,show ((2:Int)^k)=((2^k:Nat):Int) by simp,Int.fdiv_eq_ediv_of_nonneg _ (Int.natCast_nonneg _)]
 exact (Int.natCast_ediv n (2^k)).symm
theorem Zdd (n k:Nat) (hk:k≤64) (h:n*2^k<9223372036854775808):ZmY .i64 (n:Int) (k:Int)=((n*2^k:Nat):Int):=by
 unfold ZmY
 rw [Int.toNat_natCast,show min k IntKind.i64.bits=k from Nat.min_eq_left hk,show ((2:Int)^k)=((2^k:Nat):Int) by simp,←Int.natCast_mul]
 exact Zeg (by omega) (by omega)
theorem Zot (x y:Nat) (hx:x<9223372036854775808) (hy:y<9223372036854775808):Zhu .i64 (x:Int) (y:Int)=((x &&& y:Nat):Int):=by
 have hz:x &&& y<2^63:=Nat.and_lt_two_pow _ (by omega)
 unfold Zhu
 have e:(BitVec.ofInt IntKind.i64.bits (x:Int) &&& BitVec.ofInt IntKind.i64.bits (y:Int)).toNat=x &&& y:=by
  simp only [BitVec.ofInt_natCast,BitVec.toNat_and,BitVec.toNat_ofNat,show IntKind.i64.bits=64 from rfl]
  rw [Nat.mod_eq_of_lt (by omega),Nat.mod_eq_of_lt (by omega)]
 rw [e,Zeg (by omega) (by omega)]
theorem ZgO (x y:Nat) (hx:x<9223372036854775808) (hy:y<9223372036854775808):ior .i64 (x:Int) (y:Int)=((x ||| y:Nat):Int):=by
 have hz:x ||| y<2^63:=Nat.or_lt_two_pow (by omega) (by omega)
 unfold ior
 have e:(BitVec.ofInt IntKind.i64.bits (x:Int) ||| BitVec.ofInt IntKind.i64.bits (y:Int)).toNat=x ||| y:=by
  simp only [BitVec.ofInt_natCast,BitVec.toNat_or,BitVec.toNat_ofNat,show IntKind.i64.bits=64 from rfl]
  rw [Nat.mod_eq_of_lt (by omega),Nat.mod_eq_of_lt (by omega)]
 rw [e,Zeg (by omega) (by omega)]
theorem Zti (x y:Nat) (hx:x<256) (hy:y<256):ior .u8 (x:Int) (y:Int)=((x ||| y:Nat):Int):=by
 have hz:x ||| y<2^8:=Nat.or_lt_two_pow (by omega) (by omega)
 unfold ior
 have e:(BitVec.ofInt IntKind.u8.bits (x:Int) ||| BitVec.ofInt IntKind.u8.bits (y:Int)).toNat=x ||| y:=by
  simp only [BitVec.ofInt_natCast,BitVec.toNat_or,BitVec.toNat_ofNat,show IntKind.u8.bits=8 from rfl]
  rw [Nat.mod_eq_of_lt (by omega),Nat.mod_eq_of_lt (by omega)]
 rw [e,show IntKind.u8.wrap=IntKind.wrap .u8 from rfl]
 have:=wrap_u8' (((x ||| y:Nat)):Int)
 rw [this];omega
where
 wrap_u8' (n:Int):IntKind.wrap .u8 n=n%256:=by simp [IntKind.wrap,IntKind.bits,IntKind.signed]
theorem Zk3 (x:Nat) (hx:x<9223372036854775808):Zhu .i64 (x:Int) 1=((x%2:Nat):Int):=by
 have:=Zot x 1 hx (by omega)
 rw [Nat.and_one_is_mod] at this
 exact this
theorem Zit (x c k:Nat) (h:x<2^k):x ||| c*2^k=x+c*2^k:=by
 have:=Nat.two_pow_add_eq_or_of_lt h c
 rw [Nat.or_comm,Nat.mul_comm c,←this,Nat.add_comm]
theorem Zc6 (n k:Nat):n/2^k%2=(n.testBit k).toNat:=by
 rw [Nat.testBit_eq_decide_div_mod_eq]
 have:n/2^k%2<2:=Nat.mod_lt _ (by omega)
 by_cases h:n/2^k%2=1
 ·simp [h]
 ·have:n/2^k%2=0:=by omega
  simp [this]
def Zcc (n:Nat):Nat→List Bool
 | 0=>[]
 | k+1=>Zcc n k++[n.testBit k]
def ZbR:List Bool→Nat
 | []=>0
 | b::l=>b.toNat+2*ZbR l
theorem Zah (n:Nat):∀k,(Zcc n k).length=k
 | 0=>rfl
 | k+1=>by simp [Zcc,Zah n k]
theorem Zeh (a b:List Bool):ZbR (a++b)=ZbR a+2^a.length*ZbR b:=by
 induction a with
 | nil=>simp [ZbR]
 | cons x l ih=>
  simp only [List.cons_append,ZbR,ih,List.length_cons,Nat.pow_succ]
  rw [Nat.mul_add,Nat.add_assoc];congr 2
  rw [←Nat.mul_assoc,Nat.mul_comm 2]
theorem Zkz (l:List Bool):ZbR l<2^l.length:=by
 induction l with
 | nil=>simp [ZbR]
 | cons x l ih=>
  simp only [ZbR,List.length_cons,Nat.pow_succ]
  have:x.toNat≤1:=by cases x<;>decide
  omega
theorem Zh3 (n:Nat):∀k,ZbR (Zcc n k)=n%2^k
 | 0=>by simp [Zcc,ZbR,Nat.mod_one]
 | k+1=>by
  rw [Zcc,Zeh,Zh3 n k,Zah]
  simp only [ZbR,Nat.mul_zero,Nat.add_zero]
  rw [←Zc6,Nat.mod_pow_succ]
def ZdF (l:List Bool):List Int:=(List.range ((l.length+7)/8)).map fun i=>((ZbR ((l.drop (8*i)).take 8):Nat):Int)
theorem Zcb (l:List Bool):(ZdF l).length=(l.length+7)/8:=by simp [ZdF]
theorem Zoe (l:List Bool) (i:Nat) (h:i<(l.length+7)/8):(ZdF l).getD i 0=((ZbR ((l.drop (8*i)).take 8):Nat):Int):=by
 simp [ZdF,List.getD,h]
theorem Zpb (l:List Bool) (c:Bool) (h:l.length%8=0):ZdF (l++[c])=ZdF l++[((c.toNat:Nat):Int)]:=by
 apply List.ext_getElem
 ·simp [Zcb];omega
 ·intro i h1 h2
  rw [Zcb,List.length_append,List.length_singleton] at h1
  simp only [ZdF,List.getElem_map,List.getElem_range]
  by_cases hi:i<(l.length+7)/8
  ·rw [List.getElem_append_left (by simpa using hi)]
   simp only [List.getElem_map,List.getElem_range]
   rw [List.drop_append_of_le_length (by omega),List.take_append_of_le_length (by simp;omega)]
  ·rw [List.getElem_append_right (by simp;omega)]
   have:8*i=l.length:=by omega
   rw [this,List.drop_left]
   simp [ZbR]
theorem Zpa (l:List Bool) (c:Bool) (h:l.length%8≠0) :
  ZdF (l++[c])=(ZdF l).set (l.length/8) ((ZdF l).getD (l.length/8) 0+(c.toNat*2^(l.length%8):Nat)):=by
 apply List.ext_getElem
 ·simp [Zcb];omega
 ·intro i h1 h2
  rw [Zcb,List.length_append,List.length_singleton] at h1
  have hi:i<(l.length+7)/8:=by omega
  rw [List.getElem_set]
  simp only [ZdF,List.getElem_map,List.getElem_range]
  split
  ·rename_i e
   have:=Zoe l (l.length/8) (by omega)
   unfold ZdF at this
   rw [this,←e]
   have hl:(l.drop (8*(l.length/8))).length=l.length%8:=by rw [List.length_drop];omega
   rw [List.drop_append_of_le_length (by omega),List.take_of_length_le (by simp;omega),List.take_of_length_le (by omega),Zeh,hl]
   simp only [ZbR,Nat.mul_zero,Nat.add_zero]
   rw [Nat.mul_comm (2^_)]
   omega
  ·rename_i e
   rw [List.drop_append_of_le_length (by omega),List.take_append_of_le_length (by simp;omega)]
theorem Zsq (l:List Bool) (h:l.length%8≠0):∃x:Nat,(ZdF l).getD (l.length/8) 0=(x:Int)∧x<2^(l.length%8):=by
 refine ⟨_,Zoe l _ (by omega),?_⟩
 have:=Zkz ((l.drop (8*(l.length/8))).take 8)
 have hl:((l.drop (8*(l.length/8))).take 8).length=l.length%8:=by simp;omega
 rwa [hl] at this
theorem Zqe (n k:Nat) (hn:n<9223372036854775808) (hk:k≤62):∀(m i:Nat) (l:List Bool),i+m=k→l.length+m≤100000000→
  Zdf.l0 (m+1) ((n:Int),(k:Int),(i:Int),(l.length:Int),ZdF l)=some ((((l++((Zcc n k).drop i)).length:Nat):Int),ZdF (l++((Zcc n k).drop i)))
 | 0,i,l,hi,hl=>by
  rw [Zdf.l0.succ]
  simp only [Zdf.l0.step]
  rw [Za8 (by omega),List.drop_eq_nil_of_le (by rw [Zah];omega)]
  simp
 | m+1,i,l,hi,hl=>by
  have ik:i<k:=by omega
  have hd:(Zcc n k).drop i=n.testBit i::(Zcc n k).drop (i+1):=by
   have e:(Zcc n k)[i]'(by rw [Zah];exact ik)=n.testBit i:=by
    clear hi hl hk
    induction k with
    | zero=>omega
    | succ k ih=>
     simp only [Zcc]
     by_cases h:i<k
     ·rw [List.getElem_append_left (by rw [Zah];exact h)];exact ih h
     ·have:i=k:=by omega
      subst this
      rw [List.getElem_append_right (by rw [Zah];omega)]
      simp
   rw [List.drop_eq_getElem_cons (by rw [Zah];exact ik),e]
  have ih:=Zqe n k hn hk m (i+1) (l++[n.testBit i]) (by omega) (by simp;omega)
  rw [Zdf.l0.succ]
  simp only [Zdf.l0.step]
  rw [Zbd ik,cond_true]
  have hmod:((l.length:Int)).tmod 8=((l.length%8:Nat):Int):=by rw [ZaC (by omega)];omega
  have hdiv:((l.length:Int)).tdiv 8=((l.length/8:Nat):Int):=by rw [ZaD (by omega)];omega
  have hbit:Zhu .i64 (Zju .i64 (n:Int) (i:Int)) 1=(((n.testBit i).toNat:Nat):Int):=by
   rw [ZdQ n i (by omega),Zk3 _ (Nat.lt_of_le_of_lt (Nat.div_le_self _ _) hn),Zc6]
  have hc:(n.testBit i).toNat≤1:=by cases n.testBit i<;>decide
  have hp:2^(l.length%8)≤2^7:=Nat.pow_le_pow_right (by omega) (by omega)
  have hle:(n.testBit i).toNat*2^(l.length%8)≤128:=by
   calc _≤1*2^7:=Nat.mul_le_mul hc hp
    _=128:=by decide
  have hshl:ZmY .i64 (((n.testBit i).toNat:Nat):Int) ((l.length%8:Nat):Int)=(((n.testBit i).toNat*2^(l.length%8):Nat):Int):=Zdd _ _ (by omega) (by omega)
  have hwr:IntKind.wrap .u8 (((n.testBit i).toNat*2^(l.length%8):Nat):Int)=(((n.testBit i).toNat*2^(l.length%8):Nat):Int):=by
   rw [show IntKind.wrap .u8 (((n.testBit i).toNat*2^(l.length%8):Nat):Int)=(((n.testBit i).toNat*2^(l.length%8):Nat):Int)%256 by simp [IntKind.wrap,IntKind.bits,IntKind.signed]]
   omega
  simp only [hmod]
  by_cases h0:l.length%8=0
  ·have e0:(((l.length%8:Nat):Int)==0)=true:=by simp [h0]
   simp only [e0,cond_true]
   rw [Zaa _ (ZdB (by simp [Zcb];omega))]
   simp only [Zae,hmod,hdiv,hbit,hshl,hwr]
   have hlt:l.length/8<(ZdF l++[0]).length:=by rw [List.length_append,Zcb];simp;omega
   have hat:l.length/8=(ZdF l).length:=by rw [Zcb];omega
   ((try simp (disch:=omega) only [Zar,Zap,Zai,Zad,Zav,ZaK,Zaf,ZaC,ZaD,Zae,Option.map_some,cond_true,cond_false,Int.sub_zero,Int.toNat_natCast]);(try simp only [Zbj,Zc1,Zc2,Zaw,Zbn,if_true,if_false]))
   rw [hat,List.getD_eq_getElem?_getD,List.getElem?_concat_length,Option.getD_some,←hat]
   have hz:ior .u8 0 (((n.testBit i).toNat*2^(l.length%8):Nat):Int)=(((n.testBit i).toNat:Nat):Int):=by
    have:=Zti 0 ((n.testBit i).toNat*2^(l.length%8)) (by omega) (by omega)
    rw [show ((0:Nat):Int)=0 from rfl] at this
    rw [this,Nat.zero_or,h0];simp
   rw [hz,hat,List.set_append_right _ _ (Nat.le_refl _),Nat.sub_self,List.set_cons_zero,←Zpb l _ h0]
   rw [show ((i:Int)+1)=((i+1:Nat):Int) by omega,show ((l.length:Int)+1)=(((l++[n.testBit i]).length:Nat):Int) by simp]
   rw [ih,hd,List.append_assoc];rfl
  ·have e0:(((l.length%8:Nat):Int)==0)=false:=by simp;omega
   simp only [e0,cond_false,Zae,hmod,hdiv,hbit,hshl,hwr]
   have hlt:l.length/8<(ZdF l).length:=by rw [Zcb];omega
   obtain ⟨x,hx,hxl⟩:=Zsq l h0
   have hx8:x<128:=Nat.lt_of_lt_of_le hxl hp
   ((try simp (disch:=omega) only [Zar,Zap,Zai,Zad,Zav,ZaK,Zaf,ZaC,ZaD,Zae,Option.map_some,cond_true,cond_false,Int.sub_zero,Int.toNat_natCast]);(try simp only [Zbj,Zc1,Zc2,Zaw,Zbn,if_true,if_false]))
   rw [hx]
   rw [Zti x _ (by omega) (by omega),Zit x _ _ hxl]
   have:=Zpa l (n.testBit i) h0
   rw [hx] at this
   rw [show (((x+(n.testBit i).toNat*2^(l.length%8):Nat)):Int)=(x:Int)+(((n.testBit i).toNat*2^(l.length%8):Nat):Int) by omega,←this]
   rw [show ((i:Int)+1)=((i+1:Nat):Int) by omega,show ((l.length:Int)+1)=(((l++[n.testBit i]).length:Nat):Int) by simp]
   rw [ih,hd,List.append_assoc];rfl
theorem Zc3 (n k:Nat) (hn:n<9223372036854775808) (hk:k≤62) (l:List Bool) (hl:l.length≤90000000) :
  Zdf (n:Int) (k:Int) (l.length:Int) (ZdF l)=some ((((l++Zcc n k).length:Nat):Int),ZdF (l++Zcc n k)):=by
 unfold Zdf
 have:=Zqe n k hn hk k 0 l (by omega) (by omega)
 rw [ZaY,show (0:Int)=((0:Nat):Int) from rfl,this]
 simp
end Ev
end
section
namespace Ev
open Go
theorem ZhR (n:Nat):∀(k i:Nat) (h:i<k),(Zcc n k)[i]'(by rw [Zah];exact h)=n.testBit i
 | 0,i,h=>by omega
 | k+1,i,h=>by
  simp only [Zcc]
  by_cases hi:i<k
  ·rw [List.getElem_append_left (by rw [Zah];exact hi)];exact ZhR n k i hi
  ·have:i=k:=by omega
   subst this
   rw [List.getElem_append_right (by rw [Zah];omega)]
   simp
def oT (l:List Bool):List Int:=(List.range (l.length/8)).map fun i=>((ZbR ((l.drop (8*i)).take 8):Nat):Int)
def Zlg (l:List Bool):List Bool:=l++List.replicate ((8-l.length%8)%8) false
theorem ZeO (l:List Bool):(Zlg l).length=8*((l.length+7)/8):=by simp [Zlg];omega
theorem ZqC (l:List Bool):ZdF l=oT (Zlg l)∧ZdF (Zlg l)=ZdF l:=by
 have key:∀i,ZbR (((Zlg l).drop (8*i)).take 8)=ZbR ((l.drop (8*i)).take 8):=fun i=>by
  have z:∀k,ZbR (List.replicate k false)=0:=fun k=>by induction k with
   | zero=>rfl
   | succ k ih=>rw [List.replicate_succ];simp [ZbR,ih]
  have vt:∀(a b:List Bool) k,ZbR b=0→(∀j,ZbR (b.take j)=0)→ZbR ((a++b).take k)=ZbR (a.take k):=fun a b k h1 h2=>by
   rw [List.take_append,Zeh,h2];simp
  unfold Zlg
  by_cases h:8*i≤l.length
  ·rw [List.drop_append_of_le_length h]
   exact vt _ _ _ (z _) (fun j=>by rw [List.take_replicate];exact z _)
  ·rw [List.drop_eq_nil_of_le (by omega:l.length≤8*i),List.drop_append,List.drop_eq_nil_of_le (by omega:l.length≤8*i),List.nil_append,List.drop_replicate,List.take_replicate,z];rfl
 constructor
 ·unfold ZdF oT
  rw [ZeO,show 8*((l.length+7)/8)/8=(l.length+7)/8 by omega]
  exact List.map_congr_left fun i _=>by rw [key]
 ·unfold ZdF
  rw [ZeO,show (8*((l.length+7)/8)+7)/8=(l.length+7)/8 by omega]
  exact List.map_congr_left fun i _=>by rw [key]
def Zqi (n k:Nat):Nat:=ZbR (Zcc n k).reverse
theorem Zqg (n k:Nat):Zqi n (k+1)=2*Zqi n k+n/2^k%2:=by
 unfold Zqi
 rw [Zcc,List.reverse_append]
 simp only [List.reverse_cons,List.reverse_nil,List.nil_append,List.singleton_append,ZbR]
 rw [Zc6];omega
theorem Zqh (n k:Nat):Zqi n k<2^k:=by
 have:=Zkz (Zcc n k).reverse
 rwa [List.length_reverse,Zah] at this
theorem Zjn (n k:Nat) (hn:n<9223372036854775808) (hk:k≤60):∀(m i:Nat),i+m=k→Za4.l0 (m+1) ((n:Int),(Zqi n i:Int),(k:Int),(i:Int))=some (Zqi n k:Int)
 | 0,i,hi=>by
  rw [Za4.l0.succ];simp only [Za4.l0.step]
  rw [Za8 (by omega)]
  have:i=k:=by omega
  subst this;rfl
 | m+1,i,hi=>by
  have ht:=Zqh n i
  have hp:2^i≤2^60:=Nat.pow_le_pow_right (by omega) (by omega)
  have hm:n/2^i%2<2:=Nat.mod_lt _ (by omega)
  rw [Za4.l0.succ];simp only [Za4.l0.step]
  rw [Zbd (by omega),cond_true,ZdQ n i (by omega),Zk3 _ (Nat.lt_of_le_of_lt (Nat.div_le_self _ _) hn)]
  ((try simp (disch:=omega) only [Zar,Zap,Zai,Zad,Zav,ZaK,Zaf,ZaC,ZaD,Zae,Option.map_some,cond_true,cond_false,Int.sub_zero,Int.toNat_natCast]);(try simp only [Zbj,Zc1,Zc2,Zaw,Zbn,if_true,if_false]))
  rw [show 2*(Zqi n i:Int)+((n/2^i%2:Nat):Int)=(Zqi n (i+1):Int) by rw [Zqg];omega,show ((i:Int)+1)=((i+1:Nat):Int) by omega]
  exact Zjn n k hn hk m (i+1) (by omega)
theorem ZcM (n a b:Int):Za1 n a b=some (decide (a≤n∧n≤b)):=by
 unfold Za1
 by_cases h1:n≥a<;>by_cases h2:n≤b<;>simp [h1,h2]<;>omega
theorem Zo9 (n k:Nat) (hk:k≤16) (hn:n<2^k):ZcU (n:Int) (k:Int)=some true:=by
 unfold ZcU
 have hp:2^k≤2^16:=Nat.pow_le_pow_right (by omega) hk
 rw [ZcM]
 simp only [Zae]
 have h1:decide ((0:Int)≤(k:Int)∧(k:Int)≤16)=true:=by simp;omega
 have:=Zdd 1 k (by omega) (by omega)
 rw [show ((1:Nat):Int)=1 from rfl] at this
 rw [h1,cond_true,this]
 ((try simp (disch:=omega) only [Zar,Zap,Zai,Zad,Zav,ZaK,Zaf,ZaC,ZaD,Zae,Option.map_some,cond_true,cond_false,Int.sub_zero,Int.toNat_natCast]);(try simp only [Zbj,Zc1,Zc2,Zaw,Zbn,if_true,if_false]))
 rw [ZcM]
 have h2:decide ((0:Int)≤(n:Int)∧(n:Int)≤((1*2^k:Nat):Int)-1)=true:=by
  rw [decide_eq_true_eq];omega
 rw [h2];rfl
theorem ZnN (n k:Nat) (hk:k≤16) (hn:n<2^k):Za4 (n:Int) (k:Int)=some (Zqi n k:Int):=by
 have hp:2^k≤2^16:=Nat.pow_le_pow_right (by omega) hk
 unfold Za4
 rw [Zo9 n k hk hn]
 simp only [Zae,Bool.not_true,cond_false]
 have:=Zjn n k (by omega) (by omega) k 0 (by omega)
 rw [ZaY]
 rw [show (Zqi n 0:Int)=0 from rfl,show ((0:Nat):Int)=0 from rfl] at this
 rw [this];rfl
def msb (c k:Nat):List Bool:=(Zcc c k).reverse
theorem Zl1:∀(l:List Bool),Zcc (ZbR l) l.length=l:=by
 intro l
 apply List.ext_getElem
 ·rw [Zah]
 ·intro i h1 h2
  rw [ZhR _ _ _ h2]
  induction l generalizing i with
  | nil=>simp at h2
  | cons b l ih=>
   cases i with
   | zero=>
    simp only [ZbR,List.getElem_cons_zero]
    rw [Nat.testBit_zero]
    cases b<;>simp<;>omega
   | succ i=>
    simp only [ZbR,List.getElem_cons_succ]
    rw [Nat.testBit_succ,show (b.toNat+2*ZbR l)/2=ZbR l by cases b<;>simp<;>omega]
    exact ih i (by rw [Zah];simpa using h2) (by simpa using h2)
theorem ZqM (n k:Nat):Zcc (Zqi n k) k=msb n k:=by
 have:=Zl1 (Zcc n k).reverse
 rw [List.length_reverse,Zah] at this
 exact this
end Ev
end
section
namespace Ev
open Go
def Zcr:Str→List Bool
 | []=>[]
 | c::s=>Zcc c.toNat 8++Zcr s
theorem Zcf:∀s:Str,(Zcr s).length=8*s.length
 | []=>rfl
 | c::s=>by simp [Zcr,Zah,Zcf s];omega
theorem Zgk:∀s t:Str,Zcr (s++t)=Zcr s++Zcr t
 | [],t=>rfl
 | c::s,t=>by simp [Zcr,Zgk s t]
theorem Zkt:∀(s:Str) (n:Nat) (h:n<8*s.length),(Zcr s)[n]'(by rw [Zcf];exact h)=((s.getD (n/8) 0).toNat).testBit (n%8)
 | [],n,h=>by simp at h
 | c::s,n,h=>by
  simp only [Zcr]
  by_cases h8:n<8
  ·rw [List.getElem_append_left (by rw [Zah];exact h8),ZhR _ _ _ h8,show n/8=0 by omega,show n%8=n by omega];rfl
  ·rw [List.getElem_append_right (by rw [Zah];omega)]
   simp only [Zah]
   have:=Zkt s (n-8) (by simp at h;omega)
   rw [this,show n/8=(n-8)/8+1 by omega,show (n-8)%8=n%8 by omega];rfl
def Rs (s:Str) (at_:Int) (bad:Bool):Option (List Bool)→Prop
 | some l=>bad=false∧∃n:Nat,at_=(n:Int)∧n≤8*s.length∧(Zcr s).drop n=l
 | none=>bad=true∧∃n:Nat,at_=(n:Int)∧n≤8*s.length
theorem Rs.at {s:Str} {at_:Int} {bad:Bool} {m:Option (List Bool)} (h:Rs s at_ bad m):∃n:Nat,at_=(n:Int)∧n≤8*s.length:=by
 cases m with
 | none=>exact h.2
 | some l=>obtain ⟨_,n,a,b,_⟩:=h;exact ⟨n,a,b⟩
theorem Rs.fail {s:Str} {at_:Int} {bad:Bool} {m:Option (List Bool)} (h:Rs s at_ bad m):Rs s at_ true none:=⟨rfl,h.at⟩
theorem Rs.len {s:Str} {at_:Int} {bad:Bool} {l:List Bool} (h:Rs s at_ bad (some l)):at_=((8*s.length-l.length:Nat):Int)∧l.length≤8*s.length:=by
 obtain ⟨_,n,a,b,c⟩:=h
 have:=congrArg List.length c
 rw [List.length_drop,Zcf] at this
 omega
theorem Rs.start (s:Str):Rs s 0 false (some (Zcr s)):=⟨rfl,0,rfl,by omega,rfl⟩
def ZnY:Option (List Bool)→Option (List Bool)
 | some (_::l)=>some l
 | _=>none
def Zuk (s:Str) (m:Option (List Bool)) (r:Int×Str×Int×Bool):Prop:=
 r.2.1=s∧∃b:Bool,r.1=((b.toNat:Nat):Int)∧Rs s r.2.2.1 r.2.2.2 (ZnY m)∧∀c l,m=some (c::l)→b=c
theorem Zqx (s:Str) (n:Nat) (bad:Bool) (hs:s.length≤1000000000) (hlt:n<8*s.length) :
  ZfR s (n:Int) bad=some (((((s.getD (n/8) 0).toNat.testBit (n%8)).toNat:Nat):Int),s,((n+1:Nat):Int),bad):=by
 unfold ZfR
 have hmod:((n:Int)).tmod 8=((n%8:Nat):Int):=by rw [ZaC (by omega)];omega
 have hdiv:((n:Int)).tdiv 8=((n/8:Nat):Int):=by rw [ZaD (by omega)];omega
 simp only [hmod,hdiv]
 ((try simp (disch:=omega) only [Zar,Zap,Zai,Zad,Zav,ZaK,Zaf,ZaC,ZaD,Zae,Option.map_some,cond_true,cond_false,Int.sub_zero,Int.toNat_natCast]);(try simp only [Zbj,Zc1,Zc2,Zaw,Zbn,if_true,if_false]))
 rw [if_neg (by omega)]
 have hc:(s.getD (n/8) 0).toNat<256:=(s.getD (n/8) 0).toNat_lt
 have hbit:Zhu .i64 (Zju .i64 (w64 (((s.getD (n/8) 0).toNat:Nat):Int)) ((n%8:Nat):Int)) 1=((((s.getD (n/8) 0).toNat.testBit (n%8)).toNat:Nat):Int):=by
  rw [Zaf (by omega) (by omega),ZdQ _ _ (by omega),Zk3 _ (Nat.lt_of_le_of_lt (Nat.div_le_self _ _) (by omega)),Zc6]
 rw [hbit,show ((n:Int)+1)=((n+1:Nat):Int) by omega]
theorem ZkQ {s:Str} {at_:Int} {bad:Bool} {m:Option (List Bool)} (hs:s.length≤1000000000) (h:Rs s at_ bad m):Ret (ZfR s at_ bad) (Zuk s m):=by
 obtain ⟨n,rfl,hn⟩:=h.at
 unfold ZfR
 by_cases hlt:n<8*s.length
 ·have hb0:=Zqx s n bad hs hlt
  unfold ZfR at hb0
  rw [hb0]
  refine .pure ⟨rfl,_,rfl,?_,?_⟩
  ·cases m with
   | none=>exact ⟨h.1,n+1,rfl,by omega⟩
   | some l=>
    obtain ⟨hb,n',e,_,hd⟩:=h
    have:n'=n:=by omega
    subst this
    rw [List.drop_eq_getElem_cons (by rw [Zcf];exact hlt)] at hd
    subst hd
    exact ⟨hb,n'+1,rfl,by omega,rfl⟩
  ·rintro c l rfl
   obtain ⟨hb,n',e,_,hd⟩:=h
   have:n'=n:=by omega
   subst this
   rw [List.drop_eq_getElem_cons (by rw [Zcf];exact hlt),Zkt s n' hlt] at hd
   exact (List.cons.inj hd).1
 ·((try simp (disch:=omega) only [Zar,Zap,Zai,Zad,Zav,ZaK,Zaf,ZaC,ZaD,Zae,Option.map_some,cond_true,cond_false,Int.sub_zero,Int.toNat_natCast]);(try simp only [Zbj,Zc1,Zc2,Zaw,Zbn,if_true,if_false]))
  rw [if_pos (by omega)]
  refine .pure ⟨rfl,false,rfl,?_,?_⟩
  ·cases m with
   | none=>exact ⟨rfl,n,rfl,hn⟩
   | some l=>
    have:=h.len
    have:l=[]:=List.length_eq_zero_iff.1 (by omega)
    subst this
    exact ⟨rfl,n,rfl,hn⟩
  ·rintro c l rfl
   have:=h.len
   simp at this;omega
def ZbS (k:Nat):Option (List Bool)→Option (List Bool)
 | some l=>if k≤l.length then some (l.drop k) else none
 | none=>none
def Zr3 (s:Str) (k:Nat) (m:Option (List Bool)) (r:Int×Str×Int×Bool):Prop:=
 r.2.1=s∧(∃v:Nat,r.1=(v:Int)∧v<2^k∧∀l,m=some l→k≤l.length→v=ZbR (l.take k))∧Rs s r.2.2.1 r.2.2.2 (ZbS k m)
theorem ZqY (m:Option (List Bool)):ZbS 0 m=m:=by cases m<;>simp [ZbS]
theorem ZqZ (k:Nat) (m:Option (List Bool)):ZbS (k+1) m=ZnY (ZbS k m):=by
 cases m with
 | none=>rfl
 | some l=>
  simp only [ZbS]
  by_cases h:k+1≤l.length
  ·rw [if_pos h,if_pos (by omega),List.drop_eq_getElem_cons (by omega:k<l.length)];rfl
  ·rw [if_neg h]
   by_cases h2:k≤l.length
   ·rw [if_pos h2,List.drop_eq_nil_of_le (by omega)];rfl
   ·rw [if_neg h2];rfl
theorem Zjw (l:List Bool) (k:Nat) (h:k<l.length):ZbR (l.take (k+1))=ZbR (l.take k)+(l[k]).toNat*2^k:=by
 rw [List.take_succ_eq_append_getElem h,Zeh,List.length_take,Nat.min_eq_left (by omega)]
 simp only [ZbR,Nat.mul_zero,Nat.add_zero]
 rw [Nat.mul_comm (2^_)]
theorem Zqw {s:Str} (hs:s.length≤1000000000) (k:Nat) (hk:k≤60) (m0:Option (List Bool)):∀(j i v:Nat) (at_:Int) (bad:Bool),i+j=k→v<2^i→(∀l,m0=some l→i≤l.length→v=ZbR (l.take i))→Rs s at_ bad (ZbS i m0)→
  Ret (Zdh.l0 (j+1) ((v:Int),(k:Int),(i:Int),s,at_,bad)) (Zr3 s k m0)
 | 0,i,v,at_,bad,hi,hv,hl,h=>by
  rw [Zdh.l0.succ];simp only [Zdh.l0.step]
  rw [Za8 (by omega)]
  have:i=k:=by omega
  subst this
  exact .pure ⟨rfl,⟨v,rfl,hv,hl⟩,h⟩
 | j+1,i,v,at_,bad,hi,hv,hl,h=>by
  rw [Zdh.l0.succ];simp only [Zdh.l0.step]
  rw [Zbd (by omega),cond_true]
  refine .bind (ZkQ hs h) ?_
  rintro ⟨r,s',at',bad'⟩ ⟨rfl,b,rfl,h2,h3⟩
  dsimp only at h2 h3 ⊢
  have hb:b.toNat≤1:=by cases b<;>decide
  have hp:2^i≤2^60:=Nat.pow_le_pow_right (by omega) (by omega)
  have hle:b.toNat*2^i≤1*2^i:=Nat.mul_le_mul_right _ hb
  ((try simp (disch:=omega) only [Zar,Zap,Zai,Zad,Zav,ZaK,Zaf,ZaC,ZaD,Zae,Option.map_some,cond_true,cond_false,Int.sub_zero,Int.toNat_natCast]);(try simp only [Zbj,Zc1,Zc2,Zaw,Zbn,if_true,if_false]))
  rw [Zdd _ _ (by omega) (by omega),ZgO _ _ (by omega) (by omega),Zit v _ i hv,show ((i:Int)+1)=((i+1:Nat):Int) by omega]
  refine Zqw hs k hk m0 j (i+1) _ at' bad' (by omega) (by rw [Nat.pow_succ];omega) (fun l hm hil=>?_) (by rw [ZqZ];exact h2)
  subst hm
  have hlen:i<l.length:=by omega
  rw [Zjw l i hlen,←hl l rfl (by omega)]
  have:=h3 l[i] (l.drop (i+1)) (by simp only [ZbS];rw [if_pos (by omega),List.drop_eq_getElem_cons hlen])
  rw [this]
theorem Zc7 {s:Str} {at_:Int} {bad:Bool} {m:Option (List Bool)} (hs:s.length≤1000000000) (k:Nat) (hk:k≤60) (h:Rs s at_ bad m):Ret (Zdh (k:Int) s at_ bad) (Zr3 s k m):=by
 unfold Zdh
 rw [ZaY]
 refine .bind (Zqw hs k hk m k 0 0 at_ bad (by omega) (by simp) (fun l _ _=>by simp [ZbR]) (by rw [ZqY];exact h)) ?_
 rintro ⟨r,s',at',bad'⟩ hr
 exact .pure hr
def Zdq:Option (List Bool)→Option (List Bool)
 | some l=>if ZbR (l.take (l.length%8))=0 then some (l.drop (l.length%8)) else none
 | none=>none
theorem Zpp (b:Bool) (l:List Bool) (h:(l.length+1)%8≠0):Zdq (some (b::l))=if b then none else Zdq (some l):=by
 have e:(l.length+1)%8=l.length%8+1:=by omega
 simp only [Zdq,List.length_cons,e,List.take_succ_cons,List.drop_succ_cons,ZbR]
 cases b
 ·by_cases h0:ZbR (List.take (l.length%8) l)=0
  ·simp [h0]
  ·simp [h0];omega
 ·simp
theorem Zoa {s:Str} (hs:s.length≤1000000000):∀(j:Nat) (at_:Int) (bad:Bool) (m:Option (List Bool)),Rs s at_ bad m→(8-at_.toNat%8)%8<j→
  Ret (ZcQ.l0 j (s,at_,bad)) fun r=>r.1=s∧Rs s r.2.1 r.2.2 (Zdq m)
 | 0,_,_,_,_,h=>absurd h (by omega)
 | j+1,at_,bad,m,h,hj=>by
  obtain ⟨n,rfl,hn⟩:=h.at
  rw [ZcQ.l0.succ];simp only [ZcQ.l0.step]
  have hmod:((n:Int)).tmod 8=((n%8:Nat):Int):=by rw [ZaC (by omega)];omega
  rw [hmod]
  ((try simp (disch:=omega) only [Zar,Zap,Zai,Zad,Zav,ZaK,Zaf,ZaC,ZaD,Zae,Option.map_some,cond_true,cond_false,Int.sub_zero,Int.toNat_natCast]);(try simp only [Zbj,Zc1,Zc2,Zaw,Zbn,if_true,if_false]))
  refine .ite (fun h0=>.pure ⟨rfl,?_⟩) fun h0=>?_
  ·cases m with
   | none=>exact h
   | some l=>
    have hl:=h.len
    have:l.length%8=0:=by omega
    simp only [Zdq,this,List.take_zero,List.drop_zero,ZbR,if_true];exact h
  ·have hlt:n<8*s.length:=by omega
   have hst:=ZkQ hs h
   rw [Zqx s n bad hs hlt] at hst ⊢
   obtain ⟨r0,hr0,hst⟩:=hst
   cases hr0
   obtain ⟨_,b,hb,h2,h3⟩:=hst
   dsimp only at hb h2 h3
   have hbb:(s.getD (n/8) 0).toNat.testBit (n%8)=b:=by
    generalize (s.getD (n/8) 0).toNat.testBit (n%8)=c at hb
    revert hb;cases b<;>cases c<;>simp
   rw [hbb]
   simp only [Zae]
   have fin:∀bad2,Rs s ((n+1:Nat):Int) bad2 (match m with
     | some (c::l)=>if b then none else some l
     | _=>none)→Ret (ZcQ.l0 j (s,((n+1:Nat):Int),bad2)) fun r=>r.1=s∧Rs s r.2.1 r.2.2 (Zdq m):=fun bad2 h4=>by
    refine (Zoa hs j _ bad2 _ h4 (by omega)).mono fun r ⟨e1,e2⟩=>⟨e1,?_⟩
    cases m with
    | none=>exact e2
    | some l=>
     cases l with
     | nil=>have:=h.len;simp at this;omega
     | cons c l=>
      have hl:=h.len
      rw [Zpp c l (by simp at hl;omega),←h3 c l rfl]
      cases b<;>exact e2
   ((try simp (disch:=omega) only [Zar,Zap,Zai,Zad,Zav,ZaK,Zaf,ZaC,ZaD,Zae,Option.map_some,cond_true,cond_false,Int.sub_zero,Int.toNat_natCast]);(try simp only [Zbj,Zc1,Zc2,Zaw,Zbn,if_true,if_false]))
   refine .ite (fun hb0=>fin bad ?_) fun hb0=>fin true ?_
   ·have:b=false:=by cases b<;>simp at hb0 ⊢
    subst this
    cases m with
    | none=>exact h2
    | some l=>cases l<;>exact h2
   ·have:b=true:=by cases b<;>simp at hb0 ⊢
    subst this
    cases m with
    | none=>exact h2.fail
    | some l=>cases l<;>exact h2.fail
theorem Zn9 {s:Str} {at_:Int} {bad:Bool} {m:Option (List Bool)} (hs:s.length≤1000000000) (h:Rs s at_ bad m):Ret (ZcQ s at_ bad) fun r=>r.1=s∧Rs s r.2.1 r.2.2 (Zdq m):=by
 unfold ZcQ
 refine .bind (Zoa hs 9 at_ bad m h (by omega)) ?_
 rintro ⟨s',a,b⟩ hr
 exact .pure hr
end Ev
end
section
namespace Ev
open Go
theorem ZhJ (n:Int):IntKind.wrap .u32 n=n%4294967296:=by simp [IntKind.wrap,IntKind.bits,IntKind.signed]
theorem Zf4 (x y:Nat) (hx:x<4294967296) (hy:y<4294967296):Zlr .u32 (x:Int) (y:Int)=((x^^^y:Nat):Int):=by
 have hz:x^^^y<2^32:=Nat.xor_lt_two_pow (by omega) (by omega)
 unfold Zlr
 have e:(BitVec.ofInt IntKind.u32.bits (x:Int)^^^BitVec.ofInt IntKind.u32.bits (y:Int)).toNat=x^^^y:=by
  simp only [BitVec.ofInt_natCast,BitVec.toNat_xor,BitVec.toNat_ofNat,show IntKind.u32.bits=32 from rfl]
  rw [Nat.mod_eq_of_lt (by omega),Nat.mod_eq_of_lt (by omega)]
 rw [e,ZhJ];omega
theorem Zmm (x:Nat) (hx:x<4294967296):Zhu .u32 (x:Int) 1=((x%2:Nat):Int):=by
 have hz:x &&& 1<2^32:=Nat.and_lt_two_pow _ (by omega)
 unfold Zhu
 have e:(BitVec.ofInt IntKind.u32.bits (x:Int) &&& BitVec.ofInt IntKind.u32.bits ((1:Nat):Int)).toNat=x &&& 1:=by
  simp only [BitVec.ofInt_natCast,BitVec.toNat_and,BitVec.toNat_ofNat,show IntKind.u32.bits=32 from rfl]
  rw [Nat.mod_eq_of_lt (by omega),Nat.mod_eq_of_lt (by omega)]
 rw [show (1:Int)=((1:Nat):Int) from rfl,e,ZhJ,Nat.and_one_is_mod];omega
theorem Zml (x:Nat):Zju .u32 (x:Int) 1=((x/2:Nat):Int):=by
 unfold Zju
 rw [show min (1:Int).toNat IntKind.u32.bits=1 from rfl,show ((2:Int)^1)=2 by rfl,Int.fdiv_eq_ediv_of_nonneg _ (by omega)]
 omega
def Zg0 (c:Nat):Nat:=if c%2=1 then c/2^^^3988292384 else c/2
def ZhY:Nat→Nat→Nat
 | 0,c=>c
 | n+1,c=>ZhY n (Zg0 c)
def ZfH (c:Nat) (b:UInt8):Nat:=ZhY 8 (c^^^b.toNat)
def ZrI (text:Str):Nat:=text.foldl ZfH 4294967295^^^4294967295
theorem Zkl {c:Nat} (h:c<4294967296):Zg0 c<4294967296:=by
 unfold Zg0
 split
 ·exact Nat.xor_lt_two_pow (n:=32) (by omega) (by omega)
 ·omega
theorem Zi9:∀{n c:Nat},c<4294967296→ZhY n c<4294967296
 | 0,c,h=>h
 | n+1,c,h=>Zi9 (n:=n) (Zkl h)
theorem Zkm {c:Nat} {b:UInt8} (h:c<4294967296):ZfH c b<4294967296:=
 Zi9 (Nat.xor_lt_two_pow (n:=32) (by omega) (by have:=b.toNat_lt;omega))
theorem Zg1:∀(text:Str) {c:Nat},c<4294967296→text.foldl ZfH c<4294967296
 | [],_,h=>h
 | b::t,_,h=>Zg1 t (Zkm h)
theorem Zja (text:Str):ZrI text<4294967296:=Nat.xor_lt_two_pow (n:=32) (Zg1 text (by omega)) (by omega)
theorem ZhA (text:Str) (k:Int):∀(j i c:Nat),i+j=8→c<4294967296→Zau.l0 (j+1) ((c:Int),text,k,(i:Int))=some (((ZhY j c:Nat):Int),text,k)
 | 0,i,c,hi,hc=>by
  rw [Zau.l0.succ];simp only [Zau.l0.step]
  ((try simp (disch:=omega) only [Zar,Zap,Zai,Zad,Zav,ZaK,Zaf,ZaC,ZaD,Zae,Option.map_some,cond_true,cond_false,Int.sub_zero,Int.toNat_natCast]);(try simp only [Zbj,Zc1,Zc2,Zaw,Zbn,if_true,if_false]))
  rw [if_neg (by omega)];rfl
 | j+1,i,c,hi,hc=>by
  have ih:=ZhA text k j (i+1) (Zg0 c) (by omega) (Zkl hc)
  rw [Zau.l0.succ];simp only [Zau.l0.step]
  ((try simp (disch:=omega) only [Zar,Zap,Zai,Zad,Zav,ZaK,Zaf,ZaC,ZaD,Zae,Option.map_some,cond_true,cond_false,Int.sub_zero,Int.toNat_natCast]);(try simp only [Zbj,Zc1,Zc2,Zaw,Zbn,if_true,if_false]))
  rw [if_pos (by omega),Zml,Zmm c hc]
  have e:Zlr .u32 ((c/2:Nat):Int) (IntKind.wrap .u32 (3988292384*((c%2:Nat):Int)))=((Zg0 c:Nat):Int):=by
   rw [ZhJ]
   unfold Zg0
   split
   ·rename_i h1
    rw [h1,show ((3988292384:Int)*((1:Nat):Int)%4294967296)=((3988292384:Nat):Int) by rfl,Zf4 _ _ (by omega) (by omega)]
   ·rename_i h1
    have:c%2=0:=by omega
    rw [this,show ((3988292384:Int)*((0:Nat):Int)%4294967296)=((0:Nat):Int) by rfl,Zf4 _ _ (by omega) (by omega),Nat.xor_zero]
  rw [e,show ((i:Int)+1)=((i+1:Nat):Int) by omega,ih];rfl
theorem Zhz (text:Str) (hs:text.length≤1000000000):∀(j i c:Nat),i+j=text.length→c<4294967296→Zau.l1 (j+1) ((c:Int),text,(i:Int))=some (((text.drop i).foldl ZfH c:Nat):Int)
 | 0,i,c,hi,hc=>by
  rw [Zau.l1.succ];simp only [Zau.l1.step]
  ((try simp (disch:=omega) only [Zar,Zap,Zai,Zad,Zav,ZaK,Zaf,ZaC,ZaD,Zae,Option.map_some,cond_true,cond_false,Int.sub_zero,Int.toNat_natCast]);(try simp only [Zbj,Zc1,Zc2,Zaw,Zbn,if_true,if_false]))
  rw [if_neg (by omega),List.drop_eq_nil_of_le (by omega)];rfl
 | j+1,i,c,hi,hc=>by
  have hlt:i<text.length:=by omega
  rw [Zau.l1.succ];simp only [Zau.l1.step]
  ((try simp (disch:=omega) only [Zar,Zap,Zai,Zad,Zav,ZaK,Zaf,ZaC,ZaD,Zae,Option.map_some,cond_true,cond_false,Int.sub_zero,Int.toNat_natCast]);(try simp only [Zbj,Zc1,Zc2,Zaw,Zbn,if_true,if_false]))
  rw [if_pos (by omega)]
  have hb:(text.getD i 0).toNat<256:=(text.getD i 0).toNat_lt
  rw [ZhJ,show (((text.getD i 0).toNat:Int)%4294967296)=(((text.getD i 0).toNat:Nat):Int) by omega,Zf4 _ _ hc (by omega)]
  have h0:=ZhA text (i:Int) 8 0 (c^^^(text.getD i 0).toNat) (by omega) (Nat.xor_lt_two_pow (n:=32) (by omega) (by omega))
  rw [show ((0:Nat):Int)=0 from rfl] at h0
  rw [show ((8:Int)).toNat+1=8+1 from rfl,h0]
  simp only [Zae]
  ((try simp (disch:=omega) only [Zar,Zap,Zai,Zad,Zav,ZaK,Zaf,ZaC,ZaD,Zae,Option.map_some,cond_true,cond_false,Int.sub_zero,Int.toNat_natCast]);(try simp only [Zbj,Zc1,Zc2,Zaw,Zbn,if_true,if_false]))
  rw [show ((i:Int)+1)=((i+1:Nat):Int) by omega]
  have:=Zhz text hs j (i+1) (ZfH c (text.getD i 0)) (by omega) (Zkm hc)
  unfold ZfH at this
  rw [this,List.drop_eq_getElem_cons hlt,Zam hlt];rfl
theorem crc_eq (text:Str) (hs:text.length≤1000000000):crc text=some ((ZrI text:Nat):Int):=by
 unfold crc Zau
 rw [ZaY]
 have e:Zlr .u32 (IntKind.max .u32) 0=((4294967295:Nat):Int):=Zf4 4294967295 0 (by omega) (by omega)
 have h:=Zhz text hs text.length 0 4294967295 (by omega) (by omega)
 rw [show ((0:Nat):Int)=0 from rfl] at h
 rw [e,h]
 simp only [Zae,List.drop_zero]
 have hl:=Zg1 text (c:=4294967295) (by omega)
 have e2:Zlr .u32 (IntKind.max .u32) ((text.foldl ZfH 4294967295:Nat):Int)=((ZrI text:Nat):Int):=by
  rw [show IntKind.max .u32=((4294967295:Nat):Int) from rfl,Zf4 _ _ (by omega) hl,Nat.xor_comm];rfl
 rw [e2]
 have:=Zja text
 ((try simp (disch:=omega) only [Zar,Zap,Zai,Zad,Zav,ZaK,Zaf,ZaC,ZaD,Zae,Option.map_some,cond_true,cond_false,Int.sub_zero,Int.toNat_natCast]);(try simp only [Zbj,Zc1,Zc2,Zaw,Zbn,if_true,if_false]))
end Ev
end
section
namespace Ev
open Go
def zs (ns:List Nat):List Int:=ns.map fun (n:Nat)=>(n:Int)
theorem Zaj (ns:List Nat):(zs ns).length=ns.length:=by simp [zs]
theorem Za9 (ns:List Nat) (i:Nat):(zs ns).getD i 0=((ns.getD i 0:Nat):Int):=by
 simp only [zs,List.getD_eq_getElem?_getD,List.getElem?_map]
 cases ns[i]?<;>rfl
theorem ZfL (a b:List Nat):zs (a++b)=zs a++zs b:=by simp [zs]
theorem ZfK (a:List Nat) (i n:Nat):(zs a).set i (n:Int)=zs (a.set i n):=by simp [zs,List.map_set]
theorem Zg8 (k n:Nat):List.replicate k (n:Int)=zs (List.replicate k n):=by simp [zs]
def Zbm:List Nat→Nat
 | []=>0
 | n::r=>(if 0<n then 2^(15-n) else 0)+Zbm r
def Zd4:List Nat→Nat
 | []=>0
 | n::r=>(if 0<n then 1 else 0)+Zd4 r
theorem ZkA:∀ns:List Nat,Zd4 ns≤ns.length
 | []=>Nat.le_refl _
 | n::r=>by
  have:=ZkA r
  simp only [Zd4,List.length_cons]
  split<;>omega
def Zdz (ns:List Nat):Bool:=decide (ns.length≤300)&&(ns.all (fun n=>decide (n≤15))&&(decide (Zbm ns=32768)||decide (Zd4 ns=1∧Zbm ns=16384)))
def Zd2 (a:Nat):List Nat→Nat
 | []=>a
 | n::r=>Zd2 (if 0<n then n else a) r
theorem ZiA (ns:List Nat) (hn:ns.length≤300):∀(j i sum many last:Nat),i+j=ns.length→sum≤32768*i→many≤i→
  Zbp.l0 (j+1) ((sum:Int),(many:Int),(last:Int),zs ns,(ns.length:Int),(i:Int)) =
   some (if (ns.drop i).all (fun n=>decide (n≤15)) then .inl (((sum+Zbm (ns.drop i):Nat):Int),((many+Zd4 (ns.drop i):Nat):Int),((Zd2 last (ns.drop i):Nat):Int)) else .inr false)
 | 0,i,sum,many,last,hi,h1,h2=>by
  rw [Zbp.l0.succ];simp only [Zbp.l0.step]
  rw [Za8 (by omega),List.drop_eq_nil_of_le (by omega)];rfl
 | j+1,i,sum,many,last,hi,h1,h2=>by
  have hlt:i<ns.length:=by omega
  have hd:ns.drop i=ns[i]::ns.drop (i+1):=List.drop_eq_getElem_cons hlt
  have hg:ns.getD i 0=ns[i]:=Zam hlt
  rw [Zbp.l0.succ];simp only [Zbp.l0.step]
  rw [Zbd hlt,cond_true,Zaa _ (by rw [Zaj];exact ZaM hlt),Int.toNat_natCast,Za9,hg,ZcM,hd,List.all_cons]
  simp only [Zae]
  by_cases h15:ns[i]≤15
  ·have e1:decide ((0:Int)≤(ns[i]:Int)∧(ns[i]:Int)≤15)=true:=by simp;omega
   rw [e1,decide_eq_true h15,Bool.true_and]
   simp only [Bool.not_true,cond_false,Zbj]
   by_cases h0:0<ns[i]
   ·have hp:2^(15-ns[i])≤2^15:=Nat.pow_le_pow_right (by omega) (by omega)
    have hp0:0<2^(15-ns[i]):=Nat.two_pow_pos _
    have hsh:=Zdd 1 (15-ns[i]) (by omega) (by omega)
    rw [Nat.one_mul,show ((1:Nat):Int)=1 from rfl,show ((15-ns[i]:Nat):Int)=15-(ns[i]:Int) by omega] at hsh
    rw [if_pos (by omega)]
    ((try simp (disch:=omega) only [Zar,Zap,Zai,Zad,Zav,ZaK,Zaf,ZaC,ZaD,Zae,Option.map_some,cond_true,cond_false,Int.sub_zero,Int.toNat_natCast,hsh]);(try simp only [Zbj,Zc1,Zc2,Zaw,Zbn,if_true,if_false,hsh]))
    rw [show (sum:Int)+((2^(15-ns[i]):Nat):Int)=((sum+2^(15-ns[i]):Nat):Int) by omega,show (many:Int)+1=((many+1:Nat):Int) by omega,show (i:Int)+1=((i+1:Nat):Int) by omega,
     ZiA ns hn j (i+1) _ _ _ (by omega) (by omega) (by omega)]
    simp only [Zbm,Zd4,Zd2,if_pos h0,Nat.add_assoc]
   ·rw [if_neg (by omega)]
    ((try simp (disch:=omega) only [Zar,Zap,Zai,Zad,Zav,ZaK,Zaf,ZaC,ZaD,Zae,Option.map_some,cond_true,cond_false,Int.sub_zero,Int.toNat_natCast]);(try simp only [Zbj,Zc1,Zc2,Zaw,Zbn,if_true,if_false]))
    rw [show (i:Int)+1=((i+1:Nat):Int) by omega,ZiA ns hn j (i+1) _ _ _ (by omega) (by omega) (by omega)]
    simp only [Zbm,Zd4,Zd2,if_neg h0,Nat.zero_add]
  ·have e1:decide ((0:Int)≤(ns[i]:Int)∧(ns[i]:Int)≤15)=false:=by simp;omega
   rw [e1,decide_eq_false h15]
   rfl
theorem Zme:∀{ns:List Nat} {a:Nat},Zd4 ns=1→Zbm ns=2^(15-Zd2 a ns)∧0<Zd2 a ns
 | [],a,h=>by simp [Zd4] at h
 | n::r,a,h=>by
  simp only [Zd4] at h
  have z:∀r (a:Nat),Zd4 r=0→Zbm r=0∧Zd2 a r=a:=fun r=>by
   induction r with
   | nil=>intro _ _;exact ⟨rfl,rfl⟩
   | cons m r ih=>
    intro a h
    simp only [Zd4] at h
    by_cases hm:0<m
    ·rw [if_pos hm] at h;omega
    ·rw [if_neg hm] at h;simp only [Zbm,Zd2];rw [if_neg hm,if_neg hm,(ih a (by omega)).1];exact ⟨rfl,(ih a (by omega)).2⟩
  by_cases hn:0<n
  ·rw [if_pos hn] at h
   have h0:Zd4 r=0:=by omega
   simp only [Zbm,Zd2,if_pos hn,(z r n h0).1,(z r n h0).2]
   exact ⟨rfl,hn⟩
  ·rw [if_neg hn] at h
   have:=Zme (ns:=r) (a:=a) (by omega)
   simp only [Zbm,Zd2,if_neg hn,Nat.zero_add]
   exact this
theorem ZiB (ns:List Nat):Zbp (zs ns)=some (Zdz ns):=by
 unfold Zbp Zdz
 rw [Zaj]
 ((try simp (disch:=omega) only [Zar,Zap,Zai,Zad,Zav,ZaK,Zaf,ZaC,ZaD,Zae,Option.map_some,cond_true,cond_false,Int.sub_zero,Int.toNat_natCast]);(try simp only [Zbj,Zc1,Zc2,Zaw,Zbn,if_true,if_false]))
 by_cases hn:ns.length≤300
 ·rw [if_neg (by omega)]
  have h:=ZiA ns hn ns.length 0 0 0 0 (by omega) (by omega) (by omega)
  rw [show ((0:Nat):Int)=0 from rfl,List.drop_zero] at h
  rw [h,decide_eq_true hn]
  cases hall:ns.all (fun n=>decide (n≤15)) with
  | false=>rfl
  | true=>
   simp only [if_true,Zae,Bool.true_and,Nat.zero_add,Zc1]
   by_cases hk:Zbm ns=32768
   ·rw [if_pos (by omega),decide_eq_true hk];rfl
   ·rw [if_neg (by omega),decide_eq_false hk]
    by_cases hu:Zd4 ns=1
    ·rw [if_pos (by omega)]
     obtain ⟨e1,e2⟩:=Zme (a:=0) hu
     simp only [Zae,Bool.false_or]
     have hl15:Zd2 0 ns≤15∨15<Zd2 0 ns:=by omega
     have:((((Zd2 0 ns:Nat):Int))==1)=decide (Zd4 ns=1∧Zbm ns=16384):=by
      rw [Bool.eq_iff_iff,beq_iff_eq,decide_eq_true_eq]
      constructor
      ·intro h1
       have h1:Zd2 0 ns=1:=by omega
       exact ⟨hu,by rw [e1,h1]⟩
      ·rintro ⟨_,h2⟩
       rw [h2] at e1
       have hlt:Zd2 0 ns<15:=by
        rcases Nat.lt_or_ge (Zd2 0 ns) 15 with q | q
        ·exact q
        ·rw [show 15-Zd2 0 ns=0 by omega] at e1;simp at e1
       have:(2:Nat)^14=2^(15-Zd2 0 ns):=by rw [←e1]
       have hcases:Zd2 0 ns=1∨2≤Zd2 0 ns:=by omega
       rcases hcases with q | q
       ·omega
       ·have:2^(15-Zd2 0 ns)<2^14:=Nat.pow_lt_pow_right (by omega) (by omega)
        omega
     rw [this]
    ·rw [if_neg (by omega)]
     have:decide (Zd4 ns=1∧Zbm ns=16384)=false:=by simp [hu]
     rw [this];rfl
 ·rw [if_pos (by omega),decide_eq_false hn];rfl
theorem ZbC {i:Nat}:(decide ((0:Int)≤(i:Int))&&true)=true:=by simp
end Ev
end
section
namespace Ev
open Go
def base (ns:List Nat):Nat→Nat
 | 0=>0
 | 1=>0
 | l+2=>2*(base ns (l+1)+ns.count (l+1))
def Zci (ns:List Nat) (i:Nat):Nat:=base ns (ns.getD i 0)+(ns.take i).count (ns.getD i 0)
def ZdI (ns:List Nat) (l i:Nat):List Nat:=(List.range ns.length).map fun j=>if (1≤ns.getD j 0∧ns.getD j 0<l)∨(1≤l∧ns.getD j 0=l∧j<i) then Zci ns j else 0
def Zdo (ns:List Nat):List Nat:=ZdI ns 16 0
theorem ZoO (ns:List Nat):∀l,base ns (l+1)+2*ns.length≤ns.length*2^(l+1)
 | 0=>by simp [base];omega
 | l+1=>by
  have ih:=ZoO ns l
  have hc:=List.count_le_length (a:=l+1) (l:=ns)
  have h1:ns.length*2^(l+1+1)=2*(ns.length*2^(l+1)):=by rw [Nat.pow_succ,←Nat.mul_assoc,Nat.mul_comm]
  have e:base ns (l+1+1)=2*(base ns (l+1)+ns.count (l+1)):=rfl
  omega
theorem Zku (ns:List Nat) (hn:ns.length≤1000) (l:Nat) (hl:l≤16):base ns l≤100000000:=by
 cases l with
 | zero=>simp [base]
 | succ l=>
  have h:=ZoO ns l
  have hp:2^(l+1)≤2^16:=Nat.pow_le_pow_right (by omega) hl
  have:ns.length*2^(l+1)≤1000*2^16:=Nat.mul_le_mul hn hp
  omega
theorem Zhf (ns:List Nat) (l i:Nat):(ZdI ns l i).length=ns.length:=by simp [ZdI]
theorem Zo2 (ns:List Nat) (l:Nat) (hl:1≤l):ZdI ns l ns.length=ZdI ns (l+1) 0:=by
 unfold ZdI
 apply List.map_congr_left
 intro j hj
 have hj:=List.mem_range.1 hj
 by_cases h:(1≤ns.getD j 0∧ns.getD j 0<l)∨(1≤l∧ns.getD j 0=l∧j<ns.length)
 ·rw [if_pos h,if_pos (by omega)]
 ·rw [if_neg h,if_neg (by omega)]
theorem Zo1 (ns:List Nat):ZdI ns 1 0=List.replicate ns.length 0:=by
 apply List.ext_getElem
 ·simp [ZdI]
 ·intro i h1 h2
  simp only [ZdI,List.getElem_map,List.getElem_range,List.getElem_replicate]
  rw [if_neg (by omega)]
theorem Zqp (ns:List Nat) (l i:Nat) (hl:1≤l) (hi:i<ns.length):ZdI ns l (i+1)=if ns.getD i 0=l then (ZdI ns l i).set i (base ns l+(ns.take i).count l) else ZdI ns l i:=by
 apply List.ext_getElem
 ·split<;>simp [ZdI]
 ·intro j h1 h2
  have hj:j<ns.length:=by simpa [ZdI] using h1
  by_cases hc:ns.getD i 0=l
  ·simp only [if_pos hc,List.getElem_set]
   by_cases e:i=j
   ·subst e
    rw [if_pos rfl]
    simp only [ZdI,List.getElem_map,List.getElem_range]
    rw [if_pos (by omega)]
    unfold Zci;rw [hc]
   ·rw [if_neg e]
    simp only [ZdI,List.getElem_map,List.getElem_range]
    by_cases h:(1≤ns.getD j 0∧ns.getD j 0<l)∨(1≤l∧ns.getD j 0=l∧j<i)
    ·rw [if_pos h,if_pos (by omega)]
    ·rw [if_neg h,if_neg (by omega)]
  ·simp only [if_neg hc]
   simp only [ZdI,List.getElem_map,List.getElem_range]
   by_cases h:(1≤ns.getD j 0∧ns.getD j 0<l)∨(1≤l∧ns.getD j 0=l∧j<i)
   ·rw [if_pos h,if_pos (by omega)]
   ·rw [if_neg h]
    by_cases e:j=i
    ·subst e;rw [if_neg (by omega)]
    ·rw [if_neg (by omega)]
theorem ZdD (ns:List Nat) (l i:Nat) (hi:i<ns.length):(ns.take (i+1)).count l=(ns.take i).count l+if ns.getD i 0=l then 1 else 0:=by
 rw [List.take_succ_eq_append_getElem hi,List.count_append,Zam hi]
 by_cases h:ns[i]=l<;>simp [h]
theorem ZoI (ns:List Nat) (hn:ns.length≤1000) (l:Nat) (hl:1≤l) (hl15:l≤15):∀(j i:Nat),i+j=ns.length→
  ZbK.l0 (j+1) (zs ns,((base ns l+(ns.take i).count l:Nat):Int),(l:Int),zs ns,(ns.length:Int),(i:Int),zs (ZdI ns l i))=some (zs ns,((base ns l+ns.count l:Nat):Int),(l:Int),zs (ZdI ns (l+1) 0))
 | 0,i,hi=>by
  have:i=ns.length:=by omega
  subst this
  rw [ZbK.l0.succ];simp only [ZbK.l0.step,Zaj]
  rw [Za8 (by omega),List.take_length,Zo2 ns l hl];rfl
 | j+1,i,hi=>by
  have hlt:i<ns.length:=by omega
  have ih:=ZoI ns hn l hl hl15 j (i+1) (by omega)
  have hb:=Zku ns hn l (by omega)
  have hc:=List.count_le_length (a:=l) (l:=ns.take i)
  rw [List.length_take] at hc
  rw [ZdD ns l i hlt,Zqp ns l i hl hlt] at ih
  rw [ZbK.l0.succ];simp only [ZbK.l0.step,Zaj,Zhf]
  rw [Zbd hlt,cond_true,Zaa _ ZbC,Int.toNat_natCast,Za9]
  ((try simp (disch:=omega) only [Zar,Zap,Zai,Zad,Zav,ZaK,Zaf,ZaC,ZaD,Zae,Option.map_some,cond_true,cond_false,Int.sub_zero,Int.toNat_natCast]);(try simp only [Zbj,Zc1,Zc2,Zaw,Zbn,if_true,if_false]))
  by_cases h:ns.getD i 0=l
  ·rw [if_pos (by omega),Zaa _ ZbC,show (i:Int)+1=((i+1:Nat):Int) by omega,show ((base ns l+(ns.take i).count l:Nat):Int)+1=((base ns l+((ns.take i).count l+1):Nat):Int) by omega,ZfK]
   rw [if_pos h,if_pos h] at ih
   rw [ih]
  ·rw [if_neg (by omega),show (i:Int)+1=((i+1:Nat):Int) by omega]
   rw [if_neg h,if_neg h] at ih
   simp only [Nat.add_zero] at ih
   rw [ih]
theorem ZoH (ns:List Nat) (hn:ns.length≤1000):∀(j l:Nat),l+j=16→1≤l→ZbK.l1 (j+1) (zs ns,((base ns l:Nat):Int),(l:Int),zs (ZdI ns l 0))=some (zs (Zdo ns))
 | 0,l,hl,h1=>by
  have:l=16:=by omega
  subst this
  rw [ZbK.l1.succ];simp only [ZbK.l1.step]
  rfl
 | j+1,l,hl,h1=>by
  have ih:=ZoH ns hn j (l+1) (by omega) (by omega)
  have h0:=ZoI ns hn l h1 (by omega) ns.length 0 (by omega)
  have hb:=Zku ns hn l (by omega)
  have hc:=List.count_le_length (a:=l) (l:=ns)
  rw [List.take_zero,List.count_nil,show ((0:Nat):Int)=0 from rfl] at h0
  simp only [Nat.add_zero] at h0
  rw [ZbK.l1.succ];simp only [ZbK.l1.step,Zaj]
  ((try simp (disch:=omega) only [Zar,Zap,Zai,Zad,Zav,ZaK,Zaf,ZaC,ZaD,Zae,Option.map_some,cond_true,cond_false,Int.sub_zero,Int.toNat_natCast]);(try simp only [Zbj,Zc1,Zc2,Zaw,Zbn,if_true,if_false]))
  rw [if_pos (by omega),h0]
  simp only [Zae]
  ((try simp (disch:=omega) only [Zar,Zap,Zai,Zad,Zav,ZaK,Zaf,ZaC,ZaD,Zae,Option.map_some,cond_true,cond_false,Int.sub_zero,Int.toNat_natCast]);(try simp only [Zbj,Zc1,Zc2,Zaw,Zbn,if_true,if_false]))
  have e:base ns (l+1)=2*(base ns l+ns.count l):=by
   cases l with
   | zero=>omega
   | succ l=>rfl
  rw [show ((base ns l+ns.count l:Nat):Int)*2=((base ns (l+1):Nat):Int) by rw [e];omega,show (l:Int)+1=((l+1:Nat):Int) by omega,ih]
theorem ZhZ (ns:List Nat) (hn:ns.length≤1000):ZbK (zs ns)=some (zs (Zdo ns)):=by
 unfold ZbK
 have h:=ZoH ns hn 15 1 (by omega) (by omega)
 rw [Zo1,←Zg8] at h
 rw [Zaj,Zai (by omega) (by rw [Int.toNat_natCast];omega),Int.toNat_natCast]
 rw [show ((15:Int)-1).toNat+2=15+1 from rfl]
 have e:((base ns 1:Nat):Int)=0:=rfl
 rw [e,show ((1:Nat):Int)=1 from rfl,show ((0:Nat):Int)=0 from rfl] at h
 rw [h];rfl
def ZeE (ns:List Nat) (k c l:Nat):Option Nat:=(List.range k).find? fun i=>decide (0<ns.getD i 0)&&(decide (ns.getD i 0=l)&&decide (Zci ns i=c))
theorem ZrM (ns:List Nat) {i j:Nat} (hi:i<ns.length) (hj:j<ns.length) (hl:ns.getD i 0=ns.getD j 0) (hc:Zci ns i=Zci ns j):i=j:=by
 have key:∀{i j:Nat},i<j→j<ns.length→ns.getD i 0=ns.getD j 0→Zci ns i<Zci ns j:=fun {i j} hij hj hl=>by
  unfold Zci
  rw [hl]
  have h1:=ZdD ns (ns.getD j 0) i (by omega)
  rw [if_pos hl] at h1
  have h2:(ns.take (i+1)).count (ns.getD j 0)≤(ns.take j).count (ns.getD j 0):=by
   have:ns.take (i+1)=(ns.take j).take (i+1):=by rw [List.take_take,Nat.min_eq_left (by omega)]
   rw [this]
   exact (List.take_sublist _ _).count_le _
  omega
 rcases Nat.lt_trichotomy i j with h | h | h
 ·have:=key h hj hl;omega
 ·exact h
 ·have:=key h hi hl.symm;omega
theorem ZgT {ns:List Nat} {k c l i:Nat} (h:ZeE ns k c l=some i):i<k∧0<ns.getD i 0∧ns.getD i 0=l∧Zci ns i=c:=by
 unfold ZeE at h
 have h1:=List.find?_some h
 have h2:=List.mem_of_find?_eq_some h
 simp only [Bool.and_eq_true,decide_eq_true_eq] at h1
 exact ⟨List.mem_range.1 h2,h1⟩
theorem ZoA {ns:List Nat} {k i:Nat} (hk:k≤ns.length) (hi:i<k) (h0:0<ns.getD i 0):ZeE ns k (Zci ns i) (ns.getD i 0)=some i:=by
 cases h:ZeE ns k (Zci ns i) (ns.getD i 0) with
 | none=>
  unfold ZeE at h
  have:=List.find?_eq_none.1 h i (List.mem_range.2 hi)
  exact absurd (by simp only [Bool.and_eq_true,decide_eq_true_eq];exact ⟨h0,trivial,trivial⟩) this
 | some j=>
  obtain ⟨h1,h2,h3,h4⟩:=ZgT h
  rw [ZrM ns (by omega) (by omega) h3 h4]
theorem Zki (ns:List Nat) (k c l:Nat) (hk:k<ns.length):ZeE ns (k+1) c l=if 0<ns.getD k 0∧ns.getD k 0=l∧Zci ns k=c then some k else ZeE ns k c l:=by
 by_cases h:0<ns.getD k 0∧ns.getD k 0=l∧Zci ns k=c
 ·rw [if_pos h]
  obtain ⟨h1,rfl,rfl⟩:=h
  exact ZoA (by omega) (by omega) h1
 ·rw [if_neg h]
  unfold ZeE
  rw [List.range_succ,List.find?_append]
  have:List.find? (fun i=>decide (0<ns.getD i 0)&&(decide (ns.getD i 0=l)&&decide (Zci ns i=c))) [k]=none:=by
   rw [List.find?_cons]
   have:(decide (0<ns.getD k 0)&&(decide (ns.getD k 0=l)&&decide (Zci ns k=c)))=false:=by
    rw [Bool.eq_false_iff];intro hh;simp only [Bool.and_eq_true,decide_eq_true_eq] at hh;exact h hh
   rw [this];rfl
  rw [this]
  cases List.find? (fun i=>decide (0<ns.getD i 0)&&(decide (ns.getD i 0=l)&&decide (Zci ns i=c))) (List.range k)<;>rfl
def ZmW (ns:List Nat) (k:Nat) (es:List ((Int×Int)×Int)):Prop:=∀c l:Nat,ZcV [.int .i64,.int .i64] [.int .i64] es ((c:Int),(l:Int))=(ZeE ns k c l).map fun (n:Nat)=>(n:Int)
theorem Zpl (es:List ((Int×Int)×Int)) (k k':Int×Int) (v:Int):ZcV [.int .i64,.int .i64] [.int .i64] (Zdn [.int .i64,.int .i64] [.int .i64] es k v) k'=if k'=k then some v else ZcV [.int .i64,.int .i64] [.int .i64] es k':=by
 have eqb:∀a b:Int×Int,El.eqb [.int .i64,.int .i64] a b=decide (a=b):=fun a b=>by
  rw [Bool.eq_iff_iff]
  simp only [El.eqb,Sc.eqb,Bool.and_true,Bool.and_eq_true,beq_iff_eq,decide_eq_true_eq]
  exact ⟨fun h=>Prod.ext h.1 h.2,fun h=>by rw [h];exact ⟨rfl,rfl⟩⟩
 induction es with
 | nil=>
  simp only [Zdn,ZcV,eqb]
  by_cases h:k'=k<;>simp [h]
 | cons e r ih=>
  simp only [Zdn,eqb]
  by_cases h1:k=e.1
  ·rw [decide_eq_true h1,cond_true]
   simp only [ZcV,eqb]
   by_cases h:k'=k
   ·simp [h]
   ·have:¬k'=e.1:=fun x=>h (x.trans h1.symm)
    simp [h,this]
  ·rw [decide_eq_false h1,cond_false]
   simp only [ZcV,eqb]
   by_cases h:k'=e.1
   ·have:¬k'=k:=fun x=>h1 (x.symm.trans h)
    rw [decide_eq_true h,cond_true,cond_true,if_neg this]
   ·rw [decide_eq_false h,cond_false,cond_false];exact ih
end Ev
end
section
namespace Ev
open Go
theorem ZcZ (ns:List Nat):(Zdo ns).length=ns.length:=Zhf ns 16 0
theorem Zg2 (ns:List Nat) (h15:∀n∈ns,n≤15) (i:Nat) (hi:i<ns.length) (h0:0<ns.getD i 0):(Zdo ns).getD i 0=Zci ns i:=by
 have hm:ns.getD i 0≤15:=by rw [Zam hi];exact h15 _ (List.getElem_mem hi)
 rw [Zam (by rw [ZcZ];exact hi)]
 simp only [Zdo,ZdI,List.getElem_map,List.getElem_range]
 rw [if_pos (by omega)]
theorem Zjj (ns:List Nat) (hn:ns.length≤1000) (h15:∀n∈ns,n≤15):∀(j i:Nat) (es:List ((Int×Int)×Int)),i+j=ns.length→ZmW ns i es→
  Ret (Zbq.l0 (j+1) (zs ns,(ns.length:Int),(i:Int),es,zs (Zdo ns))) (ZmW ns ns.length)
 | 0,i,es,hi,h=>by
  have:i=ns.length:=by omega
  subst this
  rw [Zbq.l0.succ];simp only [Zbq.l0.step]
  rw [Za8 (by omega)];exact .pure h
 | j+1,i,es,hi,h=>by
  have hlt:i<ns.length:=by omega
  have hm:ns.getD i 0≤15:=by rw [Zam hlt];exact h15 _ (List.getElem_mem hlt)
  rw [Zbq.l0.succ];simp only [Zbq.l0.step,Zaj,ZcZ]
  rw [Zbd hlt,cond_true,Zaa _ ZbC,Zaa _ ZbC,Int.toNat_natCast,Za9,Za9]
  ((try simp (disch:=omega) only [Zar,Zap,Zai,Zad,Zav,ZaK,Zaf,ZaC,ZaD,Zae,Option.map_some,cond_true,cond_false,Int.sub_zero,Int.toNat_natCast]);(try simp only [Zbj,Zc1,Zc2,Zaw,Zbn,if_true,if_false]))
  by_cases h0:0<ns.getD i 0
  ·rw [if_pos (by omega),Zaa _ ZbC,show (i:Int)+1=((i+1:Nat):Int) by omega,Zg2 ns h15 i hlt h0]
   refine Zjj ns hn h15 j (i+1) _ (by omega) fun c l=>?_
   rw [Zpl,h c l,Zki ns i c l hlt]
   by_cases hc:0<ns.getD i 0∧ns.getD i 0=l∧Zci ns i=c
   ·rw [if_pos hc,if_pos (by obtain ⟨_,rfl,rfl⟩:=hc;rfl)];rfl
   ·rw [if_neg hc,if_neg (fun e=>hc ⟨h0,by have e2:(l:Int)=((ns.getD i 0:Nat):Int):=(Prod.mk.inj e).2;omega,by have e1:(c:Int)=((Zci ns i:Nat):Int):=(Prod.mk.inj e).1;omega⟩)]
  ·rw [if_neg (by omega),show (i:Int)+1=((i+1:Nat):Int) by omega]
   refine Zjj ns hn h15 j (i+1) _ (by omega) fun c l=>?_
   rw [h c l,Zki ns i c l hlt,if_neg (fun e=>h0 e.1)]
theorem Zg3 (ns:List Nat) (hn:ns.length≤1000) (h15:∀n∈ns,n≤15):Ret (Zbq (zs ns)) (ZmW ns ns.length):=by
 unfold Zbq
 rw [ZhZ ns hn]
 simp only [Zae,Zaj,ZcZ]
 rw [ZaY]
 refine .bind (Zjj ns hn h15 ns.length 0 [] (by omega) fun c l=>?_) fun a ha=>.pure ha
 simp [ZcV,ZeE]
def Ze7 (ns:List Nat):Nat→Nat→Nat→List Bool→Option (Nat×List Bool)
 | 0,_,_,_=>none
 | _+1,_,_,[]=>none
 | f+1,l,c,b::r=>match ZeE ns ns.length (2*c+b.toNat) l with
  | some i=>some (i,r)
  | none=>Ze7 ns f (l+1) (2*c+b.toNat) r
def ZjZ (ns:List Nat) (m:Option (List Bool)):Option (Nat×List Bool):=m.bind (Ze7 ns 15 1 0)
def Zuh (s:Str) (x:Option (Nat×List Bool)) (v at_:Int) (bad:Bool):Prop:=match x with
 | some (i,l)=>v=(i:Int)∧Rs s at_ bad (some l)
 | none=>v=0∧Rs s at_ bad none
theorem ZjS {s:Str} (hs:s.length≤1000000000) (ns:List Nat) (book:List ((Int×Int)×Int)) (hB:ZmW ns ns.length book):∀(f l c:Nat) (at_:Int) (bad:Bool) (m:Option (List Bool)),l+f=16→c<2^l→Rs s at_ bad m→
  Ret (ZaS.l0 (f+1) ((c:Int),(l:Int),s,at_,bad,book)) fun r=>match m.bind (Ze7 ns f l c) with
   | some (i,l')=>∃a,r=.inr ((i:Int),s,a,false,book)∧Rs s a false (some l')
   | none=>∃a b,r=.inl (s,a,b,book)∧∃m',Rs s a b m'
 | 0,l,c,at_,bad,m,hf,hc,h=>by
  rw [ZaS.l0.succ];simp only [ZaS.l0.step]
  ((try simp (disch:=omega) only [Zar,Zap,Zai,Zad,Zav,ZaK,Zaf,ZaC,ZaD,Zae,Option.map_some,cond_true,cond_false,Int.sub_zero,Int.toNat_natCast]);(try simp only [Zbj,Zc1,Zc2,Zaw,Zbn,if_true,if_false]))
  rw [if_neg (by omega)]
  have:m.bind (Ze7 ns 0 l c)=none:=by cases m<;>rfl
  rw [this]
  exact .pure ⟨at_,bad,rfl,_,h⟩
 | f+1,l,c,at_,bad,m,hf,hc,h=>by
  have hp:2^l≤2^15:=Nat.pow_le_pow_right (by omega) (by omega)
  rw [ZaS.l0.succ];simp only [ZaS.l0.step]
  ((try simp (disch:=omega) only [Zar,Zap,Zai,Zad,Zav,ZaK,Zaf,ZaC,ZaD,Zae,Option.map_some,cond_true,cond_false,Int.sub_zero,Int.toNat_natCast]);(try simp only [Zbj,Zc1,Zc2,Zaw,Zbn,if_true,if_false]))
  rw [if_pos (by omega)]
  refine .bind (ZkQ hs h) ?_
  rintro ⟨r,s',at',bad'⟩ ⟨rfl,b,rfl,h2,h3⟩
  dsimp only at h2 h3 ⊢
  have hb:b.toNat≤1:=by cases b<;>decide
  ((try simp (disch:=omega) only [Zar,Zap,Zai,Zad,Zav,ZaK,Zaf,ZaC,ZaD,Zae,Option.map_some,cond_true,cond_false,Int.sub_zero,Int.toNat_natCast]);(try simp only [Zbj,Zc1,Zc2,Zaw,Zbn,if_true,if_false]))
  rw [show 2*(c:Int)+((b.toNat:Nat):Int)=((2*c+b.toNat:Nat):Int) by omega,show (l:Int)+1=((l+1:Nat):Int) by omega,hB _ _]
  have go:∀m2,Rs s' at' bad' m2→Ret (ZaS.l0 (f+1) (((2*c+b.toNat:Nat):Int),((l+1:Nat):Int),s',at',bad',book)) fun r=>match m2.bind (Ze7 ns f (l+1) (2*c+b.toNat)) with
   | some (i,l')=>∃a,r=.inr ((i:Int),s',a,false,book)∧Rs s' a false (some l')
   | none=>∃a b,r=.inl (s',a,b,book)∧∃m',Rs s' a b m':=fun m2 h4=>ZjS hs ns book hB f (l+1) _ at' bad' m2 (by omega) (by rw [Nat.pow_succ];omega) h4
  have fail:Rs s' at' bad' none→m.bind (Ze7 ns (f+1) l c)=none→Ret (((if ((ZeE ns ns.length (2*c+b.toNat) l).map fun (n:Nat)=>(n:Int)).isSome=true then some (!bad') else some false).bind fun c_1=>
    bif c_1 then some (Sum.inr (((ZeE ns ns.length (2*c+b.toNat) l).map fun (n:Nat)=>(n:Int)).getD 0,s',at',bad',book)) else ZaS.l0 (f+1) (((2*c+b.toNat:Nat):Int),((l+1:Nat):Int),s',at',bad',book))) fun r=>match m.bind (Ze7 ns (f+1) l c) with
   | some (i,l')=>∃a,r=.inr ((i:Int),s',a,false,book)∧Rs s' a false (some l')
   | none=>∃a b,r=.inl (s',a,b,book)∧∃m',Rs s' a b m':=fun h4 e=>by
   rw [e]
   have hbad:bad'=true:=h4.1
   have e2:(if ((ZeE ns ns.length (2*c+b.toNat) l).map fun (n:Nat)=>(n:Int)).isSome=true then some (!bad') else some false)=some false:=by
    rw [hbad];split<;>rfl
   rw [e2]
   simp only [Zae,cond_false]
   exact go none h4
  have hform:∀(x:Option Int) (y z:Option (((Str×Int×Bool×List ((Int×Int)×Int))⊕(Int×Str×Int×Bool×List ((Int×Int)×Int))))),((bif x.isSome then some (!bad') else some false).bind fun c_1=>bif c_1 then y else z)=((if x.isSome=true then some (!bad') else some false).bind fun c_1=>bif c_1 then y else z):=fun x y z=>by cases x<;>rfl
  rw [hform]
  cases m with
  | none=>exact fail h2 rfl
  | some lst=>
   cases lst with
   | nil=>exact fail h2 rfl
   | cons b' l0=>
    have hbb:=h3 b' l0 rfl
    subst hbb
    have hbad:bad'=false:=h2.1
    subst hbad
    simp only [Option.bind_some,Ze7]
    cases hfi:ZeE ns ns.length (2*c+b.toNat) l with
    | some i=>
     simp only [Option.map_some,Option.isSome_some,if_true,Zae,Bool.not_false,cond_true,Option.getD_some]
     exact .pure ⟨at',rfl,h2⟩
    | none=>
     simp only [Option.map_none,Option.isSome_none,Zae,cond_false,Bool.false_eq_true,if_false]
     exact go (some l0) h2
theorem ZgD {s:Str} {at_:Int} {bad:Bool} {m:Option (List Bool)} (hs:s.length≤1000000000) (ns:List Nat) {book:List ((Int×Int)×Int)} (hB:ZmW ns ns.length book) (h:Rs s at_ bad m) :
  Ret (ZaS s at_ bad book) fun r=>r.2.1=s∧r.2.2.2.2=book∧Zuh s (ZjZ ns m) r.1 r.2.2.1 r.2.2.2.1:=by
 unfold ZaS
 have h0:=ZjS hs ns book hB 15 1 0 at_ bad m (by omega) (by omega) h
 rw [show ((15:Int)-1).toNat+2=15+1 from rfl]
 refine .bind h0 fun r hr=>?_
 unfold ZjZ
 cases hm:m.bind (Ze7 ns 15 1 0) with
 | none=>
  rw [hm] at hr
  obtain ⟨a,b,rfl,m',h'⟩:=hr
  exact .pure ⟨rfl,rfl,rfl,h'.fail⟩
 | some x=>
  obtain ⟨i,l'⟩:=x
  rw [hm] at hr
  obtain ⟨a,rfl,h'⟩:=hr
  exact .pure ⟨rfl,rfl,rfl,h'⟩
end Ev
end
section
namespace Ev
open Go
def krU (L:Nat):List Nat→Nat
 | []=>0
 | n::r=>(if 0<n∧n≤L then 2^(15-n) else 0)+krU L r
theorem Zth (L:Nat):∀ns,krU L ns≤Zbm ns
 | []=>Nat.le_refl _
 | n::r=>by
  have:=Zth L r
  simp only [krU,Zbm]
  by_cases h:0<n∧n≤L
  ·rw [if_pos h,if_pos h.1];omega
  ·have:=Nat.two_pow_pos (15-n);rw [if_neg h];split<;>omega
theorem ZkY (L:Nat):∀ns:List Nat,krU (L+1) ns=krU L ns+ns.count (L+1)*2^(15-(L+1))
 | []=>by simp [krU]
 | n::r=>by
  have ih:=ZkY L r
  simp only [krU,List.count_cons,ih]
  by_cases h:n=L+1
  ·subst h
   rw [if_pos (by omega),if_neg (by omega)]
   simp only [beq_self_eq_true,if_true,Nat.add_mul,Nat.one_mul];omega
  ·have hb:(n==L+1)=false:=by simp [h]
   rw [hb]
   simp only [Bool.false_eq_true,if_false,Nat.add_zero]
   by_cases h2:0<n∧n≤L
   ·rw [if_pos h2,if_pos (by omega)];omega
   ·rw [if_neg h2,if_neg (by omega)];omega
theorem Zol:∀ns:List Nat,krU 0 ns=0
 | []=>rfl
 | n::r=>by simp only [krU,Zol r];rw [if_neg (by omega)]
theorem ZrZ (ns:List Nat):∀L,L+1≤15→(base ns (L+1)+ns.count (L+1))*2^(15-(L+1))=krU (L+1) ns
 | 0,_=>by
  rw [ZkY,Zol];simp [base]
 | L+1,h=>by
  have ih:=ZrZ ns L (by omega)
  rw [ZkY,←ih]
  have e:base ns (L+1+1)=2*(base ns (L+1)+ns.count (L+1)):=rfl
  rw [e,Nat.add_mul,Nat.mul_comm 2,Nat.mul_assoc]
  congr 2
  rw [show 15-(L+1)=(15-(L+1+1))+1 by omega,Nat.pow_succ,Nat.mul_comm]
theorem ZrY (ns:List Nat) (hk:Zbm ns≤32768) (L:Nat) (h1:1≤L) (h15:L≤15):base ns L+ns.count L≤2^L:=by
 obtain ⟨l,rfl⟩:∃l,L=l+1:=⟨L-1,by omega⟩
 have h:=ZrZ ns l h15
 have h2:=Zth (l+1) ns
 have:(base ns (l+1)+ns.count (l+1))*2^(15-(l+1))≤2^(l+1)*2^(15-(l+1)):=by
  rw [h,←Nat.pow_add,show l+1+(15-(l+1))=15 by omega]
  omega
 exact Nat.le_of_mul_le_mul_right this (Nat.two_pow_pos _)
theorem Zlj (ns:List Nat) (i:Nat) (hi:i<ns.length):(ns.take i).count (ns.getD i 0)<ns.count (ns.getD i 0):=by
 have h:=ZdD ns (ns.getD i 0) i hi
 rw [if_pos rfl] at h
 have:(ns.take (i+1)).count (ns.getD i 0)≤ns.count (ns.getD i 0):=(List.take_sublist _ _).count_le _
 omega
theorem ZmJ (ns:List Nat) (i:Nat) (hi:i<ns.length):Zci ns i<base ns (ns.getD i 0)+ns.count (ns.getD i 0):=by
 have:=Zlj ns i hi
 unfold Zci;omega
theorem ZoJ (ns:List Nat) (hk:Zbm ns≤32768) (h15:∀n∈ns,n≤15) (i:Nat) (hi:i<ns.length) (h0:0<ns.getD i 0):Zci ns i<2^(ns.getD i 0):=by
 have hm:ns.getD i 0≤15:=by rw [Zam hi];exact h15 _ (List.getElem_mem hi)
 have h1:=ZmJ ns i hi
 have h2:=ZrY ns hk _ h0 hm
 omega
theorem ZrX (ns:List Nat) (l:Nat) (h1:1≤l):∀d,(base ns l+ns.count l)*2^(d+1)≤base ns (l+d+1)
 | 0=>by
  obtain ⟨k,rfl⟩:∃k,l=k+1:=⟨l-1,by omega⟩
  have e:base ns (k+1+0+1)=2*(base ns (k+1)+ns.count (k+1)):=rfl
  rw [e];omega
 | d+1=>by
  have ih:=ZrX ns l h1 d
  obtain ⟨k,rfl⟩:∃k,l=k+1:=⟨l-1,by omega⟩
  have e:base ns (k+1+(d+1)+1)=2*(base ns (k+1+d+1)+ns.count (k+1+d+1)):=by
   rw [show k+1+(d+1)+1=(k+d+1)+2 by omega,show k+1+d+1=k+d+1+1 by omega];rfl
  rw [e,Nat.pow_succ,←Nat.mul_assoc];omega
theorem Zoh (c L:Nat):∀l,l<L→(msb c L).drop l=c.testBit (L-1-l)::(msb c L).drop (l+1):=fun l hl=>by
 have hlen:(msb c L).length=L:=by simp [msb,Zah]
 rw [List.drop_eq_getElem_cons (by omega)]
 congr 1
 simp only [msb]
 rw [List.getElem_reverse]
 simp only [Zah]
 exact ZhR c L _ (by omega)
theorem ZjR (ns:List Nat) (hk:Zbm ns≤32768) (h15:∀n∈ns,n≤15) (i:Nat) (hi:i<ns.length) (h0:0<ns.getD i 0) (rest:List Bool):∀(d l:Nat),l+d=ns.getD i 0→1≤l→
  Ze7 ns (16-l) l (Zci ns i/2^(d+1)) ((msb (Zci ns i) (ns.getD i 0)).drop (l-1)++rest)=some (i,rest)
 | 0,l,hl,h1=>by
  have hm:ns.getD i 0≤15:=by rw [Zam hi];exact h15 _ (List.getElem_mem hi)
  have hL:l=ns.getD i 0:=by omega
  rw [Zoh _ _ (l-1) (by omega),show 16-l=(15-l)+1 by omega]
  simp only [List.cons_append,Ze7]
  have e:2*(Zci ns i/2^(0+1))+(Nat.testBit (Zci ns i) (ns.getD i 0-1-(l-1))).toNat=Zci ns i:=by
   rw [show ns.getD i 0-1-(l-1)=0 by omega,←Zc6];simp;omega
  rw [e,hL,ZoA (Nat.le_refl _) hi h0]
  dsimp only
  rw [List.drop_eq_nil_of_le (by simp [msb,Zah];omega)];rfl
 | d+1,l,hl,h1=>by
  have hm:ns.getD i 0≤15:=by rw [Zam hi];exact h15 _ (List.getElem_mem hi)
  have ih:=ZjR ns hk h15 i hi h0 rest d (l+1) (by omega) (by omega)
  rw [Zoh _ _ (l-1) (by omega),show 16-l=(16-(l+1))+1 by omega]
  simp only [List.cons_append,Ze7]
  have e:2*(Zci ns i/2^(d+1+1))+(Nat.testBit (Zci ns i) (ns.getD i 0-1-(l-1))).toNat=Zci ns i/2^(d+1):=by
   rw [show ns.getD i 0-1-(l-1)=d+1 by omega,←Zc6,Nat.pow_succ 2 (d+1),←Nat.div_div_eq_div_mul];omega
  rw [e]
  have hnone:ZeE ns ns.length (Zci ns i/2^(d+1)) l=none:=by
   cases hf:ZeE ns ns.length (Zci ns i/2^(d+1)) l with
   | none=>rfl
   | some j=>
    obtain ⟨hj,hj0,hjl,hjc⟩:=ZgT hf
    have t1:=ZmJ ns j hj
    rw [hjl,hjc] at t1
    have t2:=ZrX ns l h1 d
    have t3:base ns (l+d+1)≤Zci ns i:=by unfold Zci;rw [show ns.getD i 0=l+d+1 by omega];omega
    have:(Zci ns i/2^(d+1))+1≤base ns l+ns.count l:=t1
    have t4:=Nat.mul_le_mul_right (2^(d+1)) this
    have t5:=Nat.lt_mul_div_succ (Zci ns i) (Nat.two_pow_pos (d+1))
    rw [Nat.mul_comm] at t5
    omega
  rw [hnone]
  dsimp only
  rw [show l-1+1=l+1-1 by omega]
  exact ih
theorem ZqW (ns:List Nat) (hk:Zbm ns≤32768) (h15:∀n∈ns,n≤15) (i:Nat) (hi:i<ns.length) (h0:0<ns.getD i 0) (rest:List Bool) :
  ZjZ ns (some (msb (Zci ns i) (ns.getD i 0)++rest))=some (i,rest):=by
 have h:=ZjR ns hk h15 i hi h0 rest (ns.getD i 0-1) 1 (by omega) (by omega)
 have hlt:=ZoJ ns hk h15 i hi h0
 rw [show ns.getD i 0-1+1=ns.getD i 0 by omega,Nat.div_eq_of_lt hlt] at h
 simpa [ZjZ] using h
def Zjt (ns:List Nat) (i:Nat):List Bool:=msb ((Zdo ns).getD i 0) (ns.getD i 0)
theorem Ztu (ns:List Nat) (h15:∀n∈ns,n≤15) (i:Nat) (hi:i<ns.length) (h0:0<ns.getD i 0):Zjt ns i=msb (Zci ns i) (ns.getD i 0):=by
 unfold Zjt;rw [Zg2 ns h15 i hi h0]
theorem ZrL (ns:List Nat) (hk:Zbm ns≤32768) (h15:∀n∈ns,n≤15) (i:Nat) (hi:i<ns.length):(Zdo ns).getD i 0<2^(ns.getD i 0):=by
 by_cases h0:0<ns.getD i 0
 ·rw [Zg2 ns h15 i hi h0];exact ZoJ ns hk h15 i hi h0
 ·have e:(Zdo ns).getD i 0=0:=by
   rw [Zam (by rw [ZcZ];exact hi)]
   simp only [Zdo,ZdI,List.getElem_map,List.getElem_range]
   rw [if_neg (by omega)]
  rw [e];exact Nat.two_pow_pos _
theorem ZfM (ns:List Nat) (hk:Zbm ns≤32768) (h15:∀n∈ns,n≤15) (i:Nat) (hi:i<ns.length) (l:List Bool) (hl:l.length≤80000000) :
  ZdX (zs ns) (zs (Zdo ns)) (i:Int) (l.length:Int) (ZdF l)=some ((((l++Zjt ns i).length:Nat):Int),ZdF (l++Zjt ns i)):=by
 have hm:ns.getD i 0≤15:=by rw [Zam hi];exact h15 _ (List.getElem_mem hi)
 have hlt:=ZrL ns hk h15 i hi
 have hp:2^(ns.getD i 0)≤2^15:=Nat.pow_le_pow_right (by omega) hm
 have ht:=Zqh ((Zdo ns).getD i 0) (ns.getD i 0)
 unfold ZdX
 rw [Zaj,Zaj,ZcZ,Zaa _ (ZaM hi),Zaa _ (ZaM hi),Int.toNat_natCast,Za9,Za9,ZnN _ _ (by omega) hlt]
 simp only [Zae]
 rw [Zaa _ (ZaM hi),Zc3 _ _ (by omega) (by omega) l (by omega),ZqM]
 rfl
end Ev
end
section
namespace Ev
open Go
def ZnK (k:Nat):Nat→List Int→List Int
 | 0,out=>out
 | n+1,out=>ZnK k n (out++[out.getD (out.length-k) 0])
def ZpL (out:List Int) (l k:Nat):Option (List Int):=if l≤60∧k≤250∧k≤out.length then some (ZnK k l out) else none
theorem ZhB (k:Nat):∀n out,(ZnK k n out).length=out.length+n
 | 0,out=>rfl
 | n+1,out=>by rw [ZnK,ZhB k n];simp;omega
theorem Ztp (b:Int) (l k:Nat) (hk:1≤k) (hl:l≤1000):∀(j i:Nat) (out:List Int),i+j=l→k≤out.length→out.length+j≤1000000→
  add.l0 (j+1) ((l:Int),(i:Int),out,b,(l:Int),(k:Int))=some (ZnK k j out)
 | 0,i,out,hi,h1,h2=>by
  rw [add.l0.succ];simp only [add.l0.step]
  rw [Za8 (by omega)];rfl
 | j+1,i,out,hi,h1,h2=>by
  rw [add.l0.succ];simp only [add.l0.step]
  rw [Zbd (by omega),cond_true,Zaf (n:=(out.length:Int)-k) (by omega) (by omega),show (out.length:Int)-k=((out.length-k:Nat):Int) by omega,
   Zaa _ (ZaM (by omega)),Int.toNat_natCast,Zad (by simp;omega),Zaf (by omega) (by omega),show (i:Int)+1=((i+1:Nat):Int) by omega,
   Ztp b l k hk hl j (i+1) _ (by omega) (by simp;omega) (by simp;omega)]
  rfl
theorem ZhT (a b:Nat):Zlq (a:Int) (b:Int)=((min a b:Nat):Int):=by
 unfold Zlq
 by_cases h:(b:Int)<(a:Int)
 ·rw [if_pos h];omega
 ·rw [if_neg h];omega
theorem Zue (l k:Nat) (out:List Int) (hl:3≤l) (hk:1≤k) (ho:out.length≤100000) :
  add 0 (l:Int) (k:Int) out=some ((ZpL out l k).isSome,(ZpL out l k).getD []):=by
 unfold add ZpL
 rw [show (250:Int)=((250:Nat):Int) from rfl,ZhT]
 simp only [ZcM,Zae]
 rw [show (((l:Nat):Int)==0)=false by simp;omega,show ((0:Int) != 0)=false from rfl]
 simp only [cond_false]
 by_cases h60:l≤60
 ·rw [show decide ((3:Int)≤(l:Int)∧(l:Int)≤60)=true by simp;omega]
  simp only [Bool.not_true,cond_false,Zae]
  by_cases hb:k≤250∧k≤out.length
  ·rw [show decide ((1:Int)≤(k:Int)∧(k:Int)≤((min 250 out.length:Nat):Int))=true by simp;omega,if_pos ⟨h60,hb⟩]
   simp only [Bool.not_true,cond_false]
   rw [Int.sub_zero,Int.toNat_natCast]
   have:=Ztp 0 l k hk (by omega) l 0 out (by omega) hb.2 (by omega)
   rw [show ((0:Nat):Int)=0 from rfl] at this
   rw [this];rfl
  ·rw [show decide ((1:Int)≤(k:Int)∧(k:Int)≤((min 250 out.length:Nat):Int))=false by simp;omega,if_neg (fun e=>hb e.2)]
   rfl
 ·rw [show decide ((3:Int)≤(l:Int)∧(l:Int)≤60)=false by simp;omega,if_neg (fun e=>h60 e.1)]
  rfl
inductive Tk where
 | lit (c:Nat)
 | far (l k:Nat)
def Tk.z:Tk→Int×Int×Int
 | .lit c=>((c:Int),0,0)
 | .far l k=>(0,(l:Int),(k:Int))
def agM (s:Str) (a k:Nat):Nat→Nat→Nat
 | 0,n=>n
 | f+1,n=>if a+n<s.length∧n<60∧s.getD (a+n) 0=s.getD (a+n-k) 0 then agM s a k f (n+1) else n
def Zc0 (s:Str) (a:Nat):Nat→Nat×Nat
 | 0=>(0,0)
 | m+1=>if (Zc0 s a m).1<agM s a (m+1) 60 0 then (agM s a (m+1) 60 0,m+1) else Zc0 s a m
def ZhO (s:Str) (a:Nat):Tk:=if (Zc0 s a (min 250 a)).1<3 then .lit (s.getD a 0).toNat else .far (Zc0 s a (min 250 a)).1 (Zc0 s a (min 250 a)).2
def Tk.long:Tk→Nat
 | .lit _=>1
 | .far l _=>l
def ZdH (s:Str):Nat→Nat→List Tk
 | 0,_=>[]
 | f+1,a=>if a<s.length then ZhO s a::ZdH s f (a+(ZhO s a).long) else []
theorem Zr1 (s:Str) (a k:Nat):∀f n,n≤60→n≤agM s a k f n∧agM s a k f n≤60
 | 0,n,h=>⟨Nat.le_refl _,h⟩
 | f+1,n,h=>by
  rw [agM]
  by_cases c:a+n<s.length∧n<60∧s.getD (a+n) 0=s.getD (a+n-k) 0
  ·rw [if_pos c];have:=Zr1 s a k f (n+1) (by omega);omega
  ·rw [if_neg c];omega
theorem ZoR (s:Str) (a k:Nat):∀f n i,n≤i→i<agM s a k f n→a+i<s.length∧s.getD (a+i) 0=s.getD (a+i-k) 0
 | 0,n,i,h1,h2=>by simp only [agM] at h2;omega
 | f+1,n,i,h1,h2=>by
  rw [agM] at h2
  by_cases c:a+n<s.length∧n<60∧s.getD (a+n) 0=s.getD (a+n-k) 0
  ·rw [if_pos c] at h2
   by_cases e:i=n
   ·subst e;exact ⟨c.1,c.2.2⟩
   ·exact ZoR s a k f (n+1) i (by omega) h2
  ·rw [if_neg c] at h2;omega
theorem Zg5 (s:Str) (a:Nat):∀m,(Zc0 s a m).1≤60∧(Zc0 s a m).2≤m∧(0<(Zc0 s a m).1→1≤(Zc0 s a m).2∧(Zc0 s a m).1=agM s a (Zc0 s a m).2 60 0)
 | 0=>by simp [Zc0]
 | m+1=>by
  have ih:=Zg5 s a m
  have hl:=Zr1 s a (m+1) 60 0 (by omega)
  rw [Zc0]
  by_cases c:(Zc0 s a m).1<agM s a (m+1) 60 0
  ·rw [if_pos c];exact ⟨hl.2,Nat.le_refl _,fun _=>⟨Nat.le_add_left _ _,rfl⟩⟩
  ·rw [if_neg c];exact ⟨ih.1,by omega,ih.2.2⟩
theorem u8_eq (x y:UInt8):(((x.toNat:Int))==((y.toNat:Int)))=decide (x=y):=by
 by_cases h:x=y
 ·subst h;simp
 ·have:x.toNat≠y.toNat:=fun e=>h (UInt8.toNat_inj.1 e)
  rw [decide_eq_false h];simp;omega
theorem ZpY {α:Type} (s:Str) (hs:s.length≤1000) (a k n:Nat) (ha:a≤1000) (hk:k≤a) (hn:n<60) (x y:Option α) :
  ((bif decide (w64 ((a:Int)+(n:Int))<(s.length:Int)) then (need (decide (0≤(w64 ((a:Int)+(n:Int))))&&decide ((w64 ((a:Int)+(n:Int)))<s.length)) (need (decide (0≤(w64 ((w64 ((a:Int)+(n:Int)))-(k:Int))))&&decide ((w64 ((w64 ((a:Int)+(n:Int)))-(k:Int)))<s.length)) (some (((s.getD (w64 ((a:Int)+(n:Int))).toNat 0).toNat:Int)==((s.getD (w64 ((w64 ((a:Int)+(n:Int)))-(k:Int))).toNat 0).toNat:Int))))) else
 (some false)).bind fun c=>bif c then x else y)=if a+n<s.length∧n<60∧s.getD (a+n) 0=s.getD (a+n-k) 0 then x else y:=by
 have e1:w64 ((a:Int)+(n:Int))=((a+n:Nat):Int):=by rw [Zaf]<;>omega
 have e2:w64 (((a+n:Nat):Int)-(k:Int))=((a+n-k:Nat):Int):=by rw [Zaf]<;>omega
 rw [e1,e2]
 by_cases h1:a+n<s.length
 ·rw [Zaa _ (ZaM h1),Zaa _ (ZaM (by omega)),decide_eq_true (show (((a+n:Nat):Int)<(s.length:Int)) by omega),Int.toNat_natCast,Int.toNat_natCast,u8_eq,cond_true]
  simp only [Zae,Zbj]
  by_cases h2:s.getD (a+n) 0=s.getD (a+n-k) 0
  ·rw [if_pos h2,if_pos ⟨h1,hn,h2⟩]
  ·rw [if_neg h2,if_neg (fun e=>h2 e.2.2)]
 ·rw [if_neg (fun e=>h1 e.1),decide_eq_false (show ¬(((a+n:Nat):Int)<(s.length:Int)) by omega)];rfl
theorem Zh8 (s:Str) (hs:s.length≤1000) (a k:Nat) (ha:a≤1000) (hk:k≤a) (out:List (Int×Int×Int)) (o3 o4 o5:Int):∀(j n:Nat),n+j=60→
  Zan.l0 (j+1) (s,(a:Int),(k:Int),(n:Int),out,o3,o4,o5)=some (s,(a:Int),(k:Int),(agM s a k j n:Int),out,o3,o4,o5)
 | 0,n,h=>by
  rw [Zan.l0.succ];simp only [Zan.l0.step,agM]
  have hn:n=60:=by omega
  subst hn
  rfl
 | j+1,n,h=>by
  rw [Zan.l0.succ];simp only [Zan.l0.step]
  rw [agM,decide_eq_true (show ((n:Int)<60) by omega),cond_true,ZpY s hs a k n ha hk (by omega),Zaf (by omega) (by omega),show (n:Int)+1=((n+1:Nat):Int) by omega,
   Zh8 s hs a k ha hk out o3 o4 o5 j (n+1) (by omega)]
  split<;>rfl
def Zll (c:Int) (b:Nat×Nat):Int×Int×Int:=if b.1<3 then (c,0,0) else (0,(b.1:Int),(b.2:Int))
theorem ZpV (c:Int) (b:Nat×Nat) (n k:Nat):(Zll c (if b.1<n then (n,k) else b))=if 3≤n∧(Zll c b).2.1<(n:Int) then (0,(n:Int),(k:Int)) else Zll c b:=by
 unfold Zll
 by_cases h1:b.1<n<;>by_cases h2:b.1<3<;>by_cases h3:n<3 <;>
  simp only [h1,h2,h3,if_true,if_false]<;>(first | (exfalso;omega) | (rw [if_pos (by simp;omega)]) | (rw [if_neg (by simp;omega)]) | rfl)
theorem Zej (s:Str) (hs:s.length≤1000) (a:Nat) (ha:a≤1000) (out:List (Int×Int×Int)) (c:Int):∀(j m:Nat),m+j=min 250 a→∀(b:Int×Int×Int),b=Zll c (Zc0 s a m)→
  Zan.l1 (j+1) (s,(a:Int),((m+1:Nat):Int),out,b)=some (s,(a:Int),out,Zll c (Zc0 s a (min 250 a)))
 | 0,m,h,(b1,b2,b3),hb=>by
  have hm:m=min 250 a:=by omega
  subst hm
  rw [Zan.l1.succ];simp only [Zan.l1.step]
  rw [show (250:Int)=((250:Nat):Int) from rfl,ZhT,decide_eq_false (by omega),hb];rfl
 | j+1,m,h,(b1,b2,b3),hb=>by
  rw [Zan.l1.succ];simp only [Zan.l1.step]
  have h0:=Zh8 s hs a (m+1) ha (by omega) out b1 b2 b3 60 0 (by omega)
  rw [show ((0:Nat):Int)=0 from rfl] at h0
  rw [show (250:Int)=((250:Nat):Int) from rfl,ZhT,decide_eq_true (by omega),cond_true,show ((60:Int)-0).toNat=60 from rfl,h0]
  have ha2:=Zr1 s a (m+1) 60 0 (by omega)
  simp only [Zae]
  rw [Zaf (by omega) (by omega),show ((m+1:Nat):Int)+1=((m+1+1:Nat):Int) by omega]
  have hn:=ZpV c (Zc0 s a m) (agM s a (m+1) 60 0) (m+1)
  have e:Zc0 s a (m+1)=if (Zc0 s a m).1<agM s a (m+1) 60 0 then (agM s a (m+1) 60 0,m+1) else Zc0 s a m:=rfl
  rw [←e,←hb] at hn
  dsimp only at hn
  by_cases h3:3≤agM s a (m+1) 60 0
  ·rw [show decide (((agM s a (m+1) 60 0:Nat):Int)≥3)=true by simp;omega]
   simp only [cond_true,Zae,Zbj]
   by_cases h4:b2<((agM s a (m+1) 60 0:Nat):Int)
   ·rw [if_pos ⟨h3,h4⟩] at hn
    rw [if_pos (show ((agM s a (m+1) 60 0:Nat):Int)>b2 from h4)]
    exact Zej s hs a ha out c j (m+1) (by omega) _ hn.symm
   ·rw [if_neg (fun e=>h4 e.2)] at hn
    rw [if_neg (show ¬((agM s a (m+1) 60 0:Nat):Int)>b2 from h4)]
    exact Zej s hs a ha out c j (m+1) (by omega) _ hn.symm
  ·rw [show decide (((agM s a (m+1) 60 0:Nat):Int)≥3)=false by simp;omega]
   rw [if_neg (fun e=>h3 e.1)] at hn
   simp only [cond_false,Zae]
   exact Zej s hs a ha out c j (m+1) (by omega) _ hn.symm
theorem ZrW (s:Str) (a:Nat):Zll ((s.getD a 0).toNat:Int) (Zc0 s a (min 250 a))=(ZhO s a).z:=by
 unfold Zll ZhO
 split<;>rfl
theorem ZsB (x:Int) (h:1≤x):Zp4 x 1=x:=by
 unfold Zp4;split<;>omega
theorem ZlB (s:Str) (a:Nat):1≤(ZhO s a).long∧(ZhO s a).long≤60∧Zp4 (ZhO s a).z.2.1 1=((ZhO s a).long:Int):=by
 have h:=Zg5 s a (min 250 a)
 unfold ZhO
 by_cases c:(Zc0 s a (min 250 a)).1<3
 ·rw [if_pos c];exact ⟨Nat.le_refl _,by simp [Tk.long],by simp [Tk.z,Tk.long,Zp4]⟩
 ·rw [if_neg c]
  exact ⟨by simp only [Tk.long];omega,h.1,ZsB _ (by simp only [Tk.z];omega)⟩
theorem Zh7 (s:Str) (hs:s.length≤300):∀(j a:Nat),s.length≤a+j→a≤600→∀out:List (Int×Int×Int),out.length≤a→
  Zan.l2 (j+1) (s,(a:Int),out)=some (out++(ZdH s j a).map Tk.z)
 | 0,a,h,ha,out,ho=>by
  rw [Zan.l2.succ];simp only [Zan.l2.step]
  rw [Za8 (by omega)];simp [ZdH]
 | j+1,a,h,ha,out,ho=>by
  rw [Zan.l2.succ];simp only [Zan.l2.step]
  by_cases hlt:a<s.length
  ·have h1:=Zej s (by omega) a (by omega) out ((s.getD a 0).toNat:Int) (min 250 a) 0 (by omega) (((s.getD a 0).toNat:Int),0,0) (by simp [Zll,Zc0])
   rw [show ((0+1:Nat):Int)=1 from rfl] at h1
   have hb:(s.getD a 0).toNat<256:=UInt8.toNat_lt _
   have hm:((Zlq 250 (a:Int))-1).toNat+2=min 250 a+1∨(min 250 a=0∧((Zlq 250 (a:Int))-1).toNat+2=2):=by
    rw [show (250:Int)=((250:Nat):Int) from rfl,ZhT];omega
   rw [Zbd hlt,cond_true,Zaa _ ZbC,Int.toNat_natCast,Zaf (n:=((s.getD a 0).toNat:Int)) (by omega) (by omega)]
   have h1':Zan.l1 (((Zlq 250 (a:Int))-1).toNat+2) (s,(a:Int),1,out,((s.getD a 0).toNat:Int),0,0)=some (s,(a:Int),out,(ZhO s a).z):=by
    rw [←ZrW]
    rcases hm with e | ⟨e0,e⟩
    ·rw [e];exact h1
    ·rw [e]
     have a0:a=0:=by omega
     subst a0
     rfl
   rw [h1']
   obtain ⟨t1,t2,t3⟩:=ZlB s a
   rcases hz:(ZhO s a).z with ⟨z1,z2,z3⟩
   rw [hz] at t3
   simp only [Zae]
   dsimp only at t3
   rw [Zad (by simp;omega),t3,Zaf (by omega) (by omega),show (a:Int)+((ZhO s a).long:Int)=((a+(ZhO s a).long:Nat):Int) by omega,
    Zh7 s hs j (a+(ZhO s a).long) (by omega) (by omega) _ (by simp;omega)]
   rw [ZdH,if_pos hlt,List.map_cons,hz];simp
  ·rw [Za8 (by omega),ZdH,if_neg hlt];simp
def Zhc (s:Str):List Tk:=ZdH s s.length 0
theorem Zh9 (s:Str) (hs:s.length≤300):Zan s=some ((Zhc s).map Tk.z):=by
 unfold Zan
 rw [decide_eq_false (by omega),cond_false,ZaY]
 have h:=Zh7 s hs s.length 0 (by omega) (by omega) [] (by simp)
 rw [show ((0:Nat):Int)=0 from rfl] at h
 rw [h];simp [Zhc]
end Ev
end
section
namespace Ev
open Go
def ints (s:Str):List Int:=s.map fun c=>(c.toNat:Int)
theorem Zct (s:Str):(ints s).length=s.length:=by simp [ints]
theorem Zrl (s:Str) (i:Nat):(ints s).getD i 0=((s.getD i 0).toNat:Int):=by
 by_cases h:i<s.length
 ·rw [Zam (by rw [Zct];exact h),Zam h];simp [ints]
 ·simp [ints,List.getD,Nat.le_of_not_lt h]
theorem ZiH (s t:Str):ints (s++t)=ints s++ints t:=by simp [ints]
theorem Zgu {α:Type} (s:List α) (n:Nat) (d:α) (h:n<s.length):s.take (n+1)=s.take n++[s.getD n d]:=by
 rw [List.take_succ_eq_append_getElem h,Zam h]
theorem Zqk {α:Type} (s:List α) (n i:Nat) (d:α) (h:i<n):(s.take n).getD i d=s.getD i d:=by
 simp [List.getD,List.getElem?_take,h]
theorem ZmF (s:Str) (a l k:Nat) (hk:1≤k) (hka:k≤a) (h:∀i,i<l→a+i<s.length∧s.getD (a+i) 0=s.getD (a+i-k) 0):∀(j i:Nat),i+j=l→
  ZnK k j (ints (s.take (a+i)))=ints (s.take (a+l))
 | 0,i,hi=>by rw [show i=l by omega];rfl
 | j+1,i,hi=>by
  obtain ⟨h1,h2⟩:=h i (by omega)
  rw [ZnK,Zct,List.length_take,Nat.min_eq_left (by omega),Zrl,Zqk _ _ _ _ (by omega),←h2]
  have e:ints (s.take (a+i))++[((s.getD (a+i) 0).toNat:Int)]=ints (s.take (a+(i+1))):=by
   rw [←Nat.add_assoc,Zgu s (a+i) 0 h1,ZiH];rfl
  rw [e]
  exact ZmF s a l k hk hka h j (i+1) (by omega)
theorem ZnZ {s:Str} {a c:Nat} (h:ZhO s a=.lit c):c=(s.getD a 0).toNat:=by
 unfold ZhO at h
 split at h
 ·exact (Tk.lit.inj h).symm
 ·cases h
theorem Zn0 {s:Str} {a l k:Nat} (h:ZhO s a=.far l k) (ha:a≤s.length):3≤l∧l≤60∧1≤k∧k≤250∧a+l≤s.length∧ZpL (ints (s.take a)) l k=some (ints (s.take (a+l))):=by
 have hb:=Zg5 s a (min 250 a)
 unfold ZhO at h
 by_cases c:(Zc0 s a (min 250 a)).1<3
 ·rw [if_pos c] at h;cases h
 ·rw [if_neg c] at h
  obtain ⟨rfl,rfl⟩:=Tk.far.inj h
  obtain ⟨h1,h2,h3⟩:=hb
  obtain ⟨h4,h5⟩:=h3 (by omega)
  have hs:∀i,i<(Zc0 s a (min 250 a)).1→a+i<s.length∧s.getD (a+i) 0=s.getD (a+i-(Zc0 s a (min 250 a)).2) 0:=fun i hi=>
   ZoR s a (Zc0 s a (min 250 a)).2 60 0 i (Nat.zero_le _) (by rw [←h5];exact hi)
  have hlast:=(hs ((Zc0 s a (min 250 a)).1-1) (by omega)).1
  refine ⟨by omega,h1,h4,by omega,by omega,?_⟩
  unfold ZpL
  rw [Zct,List.length_take,Nat.min_eq_left ha,if_pos ⟨h1,by omega,by omega⟩]
  have:=ZmF s a _ _ h4 (by omega) hs (Zc0 s a (min 250 a)).1 0 (by omega)
  rw [Nat.add_zero] at this
  rw [this]
def Zcs:List Nat:=[0,0,0,0,0,0,0,0,1,1,1,1,2,2,2,2,3,3,3,3,4,4,4,4,5,5,5,5]
def ZaG:List Nat:=[3,4,5,6,7,8,9,10,11,13,15,17,19,23,27,31,35,43,51,59,67,83,99,115,131,163,195,227]
def ZcR:List Nat:=[0,0,0,0,1,1,2,2,3,3,4,4,5,5,6,6,7,7,8,8,9,9,10,10,11,11,12,12,13,13]
def ZaU:List Nat:=[1,2,3,4,5,7,9,13,17,25,33,49,65,97,129,193,257,385,513,769,1025,1537,2049,3073,4097,6145,8193,12289,16385,24577]
theorem ZgL:Zbk=some (zs ZaG,zs Zcs):=by kernel_rfl
theorem Zg6:Zbl=some (zs ZaU,zs ZcR):=by kernel_rfl
def Zmx:List Nat:=List.replicate 144 8++List.replicate 112 9++List.replicate 24 7++List.replicate 8 8
def ZmZ:List Nat:=List.replicate 32 5
theorem Zhx:ZaV=some (zs Zmx,zs ZmZ):=by kernel_rfl
def ZbU (F:List Nat) (n:Nat):Nat:=(F.filter fun x=>decide (x≤n)).length-1
def chkL:Bool:=(List.range 58).all fun i=>
 (Zbv (zs ZaG) (zs Zcs) ((i+3:Nat):Int)==some ((ZbU ZaG (i+3):Nat):Int))&&(Zmf (zs ZaG) ((i+3:Nat):Int)==some ((ZbU ZaG (i+3):Nat):Int))&&
 decide (ZbU ZaG (i+3)<28)&&decide (ZaG.getD (ZbU ZaG (i+3)) 0≤i+3)&&decide (i+3-ZaG.getD (ZbU ZaG (i+3)) 0<2^Zcs.getD (ZbU ZaG (i+3)) 0)
def chkD:Bool:=(List.range 250).all fun i=>
 (Zbv (zs ZaU) (zs ZcR) ((i+1:Nat):Int)==some ((ZbU ZaU (i+1):Nat):Int))&&(Zmf (zs ZaU) ((i+1:Nat):Int)==some ((ZbU ZaU (i+1):Nat):Int))&&
 decide (ZbU ZaU (i+1)<30)&&decide (ZaU.getD (ZbU ZaU (i+1)) 0≤i+1)&&decide (i+1-ZaU.getD (ZbU ZaU (i+1)) 0<2^ZcR.getD (ZbU ZaU (i+1)) 0)
theorem Zt7:chkL=true:=by kernel_rfl
theorem Zt8:chkD=true:=by kernel_rfl
theorem Zek (n:Nat) (h1:3≤n) (h2:n≤60):Zbv (zs ZaG) (zs Zcs) (n:Int)=some ((ZbU ZaG n:Nat):Int)∧Zmf (zs ZaG) (n:Int)=some ((ZbU ZaG n:Nat):Int)∧
  ZbU ZaG n<28∧ZaG.getD (ZbU ZaG n) 0≤n∧n-ZaG.getD (ZbU ZaG n) 0<2^Zcs.getD (ZbU ZaG n) 0:=by
 have h:=List.all_eq_true.1 Zt7 (n-3) (List.mem_range.2 (by omega))
 rw [show n-3+3=n by omega] at h
 simp only [Bool.and_eq_true,beq_iff_eq,decide_eq_true_eq] at h
 exact ⟨h.1.1.1.1,h.1.1.1.2,h.1.1.2,h.1.2,h.2⟩
theorem ZeV (n:Nat) (h1:1≤n) (h2:n≤250):Zbv (zs ZaU) (zs ZcR) (n:Int)=some ((ZbU ZaU n:Nat):Int)∧Zmf (zs ZaU) (n:Int)=some ((ZbU ZaU n:Nat):Int)∧
  ZbU ZaU n<30∧ZaU.getD (ZbU ZaU n) 0≤n∧n-ZaU.getD (ZbU ZaU n) 0<2^ZcR.getD (ZbU ZaU n) 0:=by
 have h:=List.all_eq_true.1 Zt8 (n-1) (List.mem_range.2 (by omega))
 rw [show n-1+1=n by omega] at h
 simp only [Bool.and_eq_true,beq_iff_eq,decide_eq_true_eq] at h
 exact ⟨h.1.1.1.1,h.1.1.1.2,h.1.1.2,h.1.2,h.2⟩
theorem ZkU (k:Nat):Zcs.getD k 0≤5:=by
 by_cases h:k<28
 ·have:(List.range 28).all (fun k=>decide (Zcs.getD k 0≤5))=true:=by decide
  simpa using List.all_eq_true.1 this k (List.mem_range.2 h)
 ·simp [List.getD,show Zcs.length=28 from rfl,Nat.le_of_not_lt h]
theorem Zln (k:Nat):ZcR.getD k 0≤13:=by
 by_cases h:k<30
 ·have:(List.range 30).all (fun k=>decide (ZcR.getD k 0≤13))=true:=by decide
  simpa using List.all_eq_true.1 this k (List.mem_range.2 h)
 ·simp [List.getD,show ZcR.length=30 from rfl,Nat.le_of_not_lt h]
def Tk.Ok:Tk→Prop
 | .lit c=>c<256
 | .far l k=>3≤l∧l≤60∧1≤k∧k≤250
theorem ZhN (s:Str):∀f a,a≤s.length→∀t∈ZdH s f a,t.Ok
 | 0,a,ha,t,h=>by simp [ZdH] at h
 | f+1,a,ha,t,h=>by
  rw [ZdH] at h
  by_cases hlt:a<s.length
  ·rw [if_pos hlt] at h
   cases hk:ZhO s a with
   | lit c=>
    rw [hk] at h
    rcases List.mem_cons.1 h with rfl | h
    ·rw [ZnZ hk];exact UInt8.toNat_lt _
    ·exact ZhN s f (a+1) (by omega) t h
   | far l k=>
    have hf:=Zn0 hk ha
    rw [hk] at h
    rcases List.mem_cons.1 h with rfl | h
    ·exact ⟨hf.1,hf.2.1,hf.2.2.1,hf.2.2.2.1⟩
    ·exact ZhN s f (a+l) (by omega) t h
  ·rw [if_neg hlt] at h;simp at h
theorem Zhb (s:Str):∀f a,(ZdH s f a).length≤f
 | 0,a=>by simp [ZdH]
 | f+1,a=>by
  rw [ZdH];split
  ·have:=Zhb s f (a+(ZhO s a).long);simp;omega
  ·simp
def Zn1 (ls ds:List Nat):Tk→List Bool
 | .lit c=>Zjt ls c
 | .far l k=>Zjt ls (257+ZbU ZaG l)++(Zcc (l-ZaG.getD (ZbU ZaG l) 0) (Zcs.getD (ZbU ZaG l) 0)++(Zjt ds (ZbU ZaU k)++Zcc (k-ZaU.getD (ZbU ZaU k) 0) (ZcR.getD (ZbU ZaU k) 0)))
def ZeD (ls ds:List Nat):List Tk→List Bool
 | []=>Zjt ls 256
 | t::r=>Zn1 ls ds t++ZeD ls ds r
def Tk.In (ls ds:List Nat):Tk→Prop
 | .lit c=>c<ls.length
 | .far l k=>257+ZbU ZaG l<ls.length∧ZbU ZaU k<ds.length
theorem ZcH (ns:List Nat) (i:Nat) (hi:i<ns.length) (h15:∀n∈ns,n≤15):(Zjt ns i).length≤15:=by
 have hm:ns.getD i 0≤15:=by rw [Zam hi];exact h15 _ (List.getElem_mem hi)
 simp [Zjt,msb,Zah];exact hm
theorem Zia (ls ds:List Nat) (hl:∀n∈ls,n≤15) (hd:∀n∈ds,n≤15) (t:Tk) (h:t.In ls ds):(Zn1 ls ds t).length≤48:=by
 cases t with
 | lit c=>have:=ZcH ls c h hl;simp only [Zn1];omega
 | far l k=>
  have h1:=ZcH ls _ h.1 hl
  have h2:=ZcH ds _ h.2 hd
  have h3:=ZkU (ZbU ZaG l)
  have h4:=Zln (ZbU ZaU k)
  simp only [Zn1,List.length_append,Zah];omega
end Ev
end
section
namespace Ev
open Go
theorem Zab {α β:Type} (a:α) (f:α→Option β):(some a).bind f=f a:=Eq.trans rfl rfl
def Zjk (ls ds:List Nat) (ts:List Tk):List Bool:=ts.flatMap (Zn1 ls ds)
theorem ZjP (ls ds:List Nat):∀ts,ZeD ls ds ts=Zjk ls ds ts++Zjt ls 256
 | []=>rfl
 | t::r=>by rw [ZeD,ZjP ls ds r];simp [Zjk]
theorem ZnS (ts:List Tk) (i:Nat) (h:i<ts.length):(ts.map Tk.z).getD i (0,0,0)=(ts[i]).z:=by
 rw [Zam (by simpa using h)];simp
theorem ZjJ (ls ds:List Nat) (hkl:Zbm ls≤32768) (hkd:Zbm ds≤32768) (hl:∀n∈ls,n≤15) (hd:∀n∈ds,n≤15) (ts:List Tk) (hts:∀t∈ts,t.Ok∧t.In ls ds) (hn:ts.length≤1000) :
  ∀(j i:Nat) (l:List Bool),i+j=ts.length→l.length+48*j≤70000000→
  Zba.l0 (j+1) (zs ls,zs ds,ts.map Tk.z,(ts.length:Int),(i:Int),(l.length:Int),zs (Zdo ls),zs (Zdo ds),ZdF l) =
   some (zs ls,(((l++Zjk ls ds (ts.drop i)).length:Nat):Int),zs (Zdo ls),ZdF (l++Zjk ls ds (ts.drop i)))
 | 0,i,l,hi,hb=>by
  rw [Zba.l0.succ];simp only [Zba.l0.step]
  rw [Za8 (by omega),List.drop_eq_nil_of_le (by omega)];simp [Zjk]
 | j+1,i,l,hi,hb=>by
  have hlt:i<ts.length:=by omega
  obtain ⟨hok,hin⟩:=hts ts[i] (List.getElem_mem hlt)
  have hdr:ts.drop i=ts[i]::ts.drop (i+1):=List.drop_eq_getElem_cons hlt
  have htl:=Zia ls ds hl hd ts[i] hin
  have ih:=ZjJ ls ds hkl hkd hl hd ts hts hn j (i+1) (l++Zn1 ls ds ts[i]) (by omega) (by simp;omega)
  have e:Zjk ls ds (ts.drop i)=Zn1 ls ds ts[i]++Zjk ls ds (ts.drop (i+1)):=by rw [hdr];rfl
  rw [e,←List.append_assoc,←ih]
  rw [Zba.l0.succ];simp only [Zba.l0.step]
  rw [Zbd hlt,cond_true,Zaa _ (by rw [List.length_map];exact ZaM hlt),Int.toNat_natCast,ZnS ts i hlt,Zaf (n:=(i:Int)+1) (by omega) (by omega),show (i:Int)+1=((i+1:Nat):Int) by omega]
  cases hk:ts[i] with
  | lit c=>
   rw [hk] at hok hin
   have hc:=ZfM ls hkl hl c hin l (by omega)
   simp only [Tk.z]
   rw [show ((0:Int)==0)=true from rfl,cond_true,hc]
   simp only [Zab,Zn1]
  | far n k=>
   rw [hk] at hok hin
   obtain ⟨o1,o2,o3,o4⟩:=hok
   obtain ⟨i1,i2⟩:=hin
   obtain ⟨a1,a2,a3,a4,a5⟩:=Zek n o1 o2
   obtain ⟨b1,b2,b3,b4,b5⟩:=ZeV k o3 o4
   have hlb:=ZkU (ZbU ZaG n)
   have hbb:=Zln (ZbU ZaU k)
   have hs1:=ZcH ls (257+ZbU ZaG n) i1 hl
   have hs2:=ZcH ds (ZbU ZaU k) i2 hd
   have c1:=ZfM ls hkl hl _ i1 l (by omega)
   have c2:=Zc3 (n-ZaG.getD (ZbU ZaG n) 0) (Zcs.getD (ZbU ZaG n) 0) (by omega) (by omega) (l++Zjt ls (257+ZbU ZaG n)) (by simp only [List.length_append];omega)
   have c3:=ZfM ds hkd hd _ i2 ((l++Zjt ls (257+ZbU ZaG n))++Zcc (n-ZaG.getD (ZbU ZaG n) 0) (Zcs.getD (ZbU ZaG n) 0)) (by simp only [List.length_append,Zah];omega)
   have c4:=Zc3 (k-ZaU.getD (ZbU ZaU k) 0) (ZcR.getD (ZbU ZaU k) 0) (by omega) (by omega) (((l++Zjt ls (257+ZbU ZaG n))++Zcc (n-ZaG.getD (ZbU ZaG n) 0) (Zcs.getD (ZbU ZaG n) 0))++Zjt ds (ZbU ZaU k)) (by simp only [List.length_append,Zah];omega)
   have eL:=ZgL
   have eB:=Zg6
   have gL:=fun i:Nat=>Za9 ZaG i
   have gM:=fun i:Nat=>Za9 Zcs i
   have gB:=fun i:Nat=>Za9 ZaU i
   have gC:=fun i:Nat=>Za9 ZcR i
   have nL:(zs ZaG).length=28:=Zaj ZaG
   have nM:(zs Zcs).length=28:=Zaj Zcs
   have nB:(zs ZaU).length=30:=Zaj ZaU
   have nC:(zs ZcR).length=30:=Zaj ZcR
   generalize zs ZaG=A at eL a1 a2 gL nL
   generalize zs Zcs=A' at eL a1 gM nM
   generalize zs ZaU=B at eB b1 b2 gB nB
   generalize zs ZcR=B' at eB b1 gC nC
   simp only [Tk.z]
   rw [show ((n:Int)==0)=false by simp;omega,cond_false,eL,eB]
   simp only [Zab]
   rw [a1]
   simp only [Zab]
   rw [Zaf (n:=257+((ZbU ZaG n:Nat):Int)) (by omega) (by omega),show (257:Int)+((ZbU ZaG n:Nat):Int)=((257+ZbU ZaG n:Nat):Int) by omega,c1]
   simp only [Zab]
   rw [Zaa _ (ZaM (by rw [nL];exact a3)),Zaa _ (ZaM (by rw [nM];exact a3)),Int.toNat_natCast,gL,gM,
    Zaf (n:=(n:Int)-((ZaG.getD (ZbU ZaG n) 0:Nat):Int)) (by omega) (by omega),show (n:Int)-((ZaG.getD (ZbU ZaG n) 0:Nat):Int)=((n-ZaG.getD (ZbU ZaG n) 0:Nat):Int) by omega,c2]
   simp only [Zab]
   rw [b1]
   simp only [Zab]
   rw [c3]
   simp only [Zab]
   rw [Zaa _ (ZaM (by rw [nB];exact b3)),Zaa _ (ZaM (by rw [nC];exact b3)),Int.toNat_natCast,gB,gC,
    Zaf (n:=(k:Int)-((ZaU.getD (ZbU ZaU k) 0:Nat):Int)) (by omega) (by omega),show (k:Int)-((ZaU.getD (ZbU ZaU k) 0:Nat):Int)=((k-ZaU.getD (ZbU ZaU k) 0:Nat):Int) by omega,c4]
   simp only [Zab,Zn1,List.append_assoc]
theorem ZjK (ls ds:List Nat) (hkl:Zbm ls≤32768) (hkd:Zbm ds≤32768) (hl:∀n∈ls,n≤15) (hd:∀n∈ds,n≤15) (h1:ls.length≤300) (h2:ds.length≤300) (h256:256<ls.length) (ts:List Tk) (hts:∀t∈ts,t.Ok∧t.In ls ds) (hn:ts.length≤1000)
  (l:List Bool) (hb:l.length≤60000000):Zba (ts.map Tk.z) (zs ls) (zs ds) (l.length:Int) (ZdF l)=some ((((l++ZeD ls ds ts).length:Nat):Int),ZdF (l++ZeD ls ds ts)):=by
 unfold Zba
 rw [ZhZ ls (by omega),ZhZ ds (by omega)]
 simp only [Zae,List.length_map]
 rw [ZaY]
 have h:=ZjJ ls ds hkl hkd hl hd ts hts hn ts.length 0 l (by omega) (by omega)
 rw [show ((0:Nat):Int)=0 from rfl] at h
 rw [h,List.drop_zero]
 simp only [Zae]
 have hbl:(Zjk ls ds ts).length≤48*ts.length:=by
  clear h hn hb
  induction ts with
  | nil=>simp [Zjk]
  | cons t r ih=>
   have:=ih (fun t h=>hts t (List.mem_cons_of_mem _ h))
   have ht:=Zia ls ds hl hd t (hts t (List.mem_cons_self ..)).2
   simp only [Zjk,List.flatMap_cons,List.length_append,List.length_cons] at this ⊢;omega
 have hc:=ZfM ls hkl hl 256 h256 (l++Zjk ls ds ts) (by simp;omega)
 rw [show ((256:Nat):Int)=256 from rfl] at hc
 rw [hc,ZjP]
 simp only [Zae,List.append_assoc]
end Ev
end
section
namespace Ev
open Go
def Ze6 (l:List Bool):Str:=Zck (ZdF l)
theorem Zhe (l:List Bool):(Ze6 l).length=(l.length+7)/8:=by simp [Ze6,Zck,Zcb]
theorem Zpc (l:List Bool) (h:8≤l.length):ZdF l=((ZbR (l.take 8):Nat):Int)::ZdF (l.drop 8):=by
 unfold ZdF
 rw [show (l.length+7)/8=((l.drop 8).length+7)/8+1 by rw [List.length_drop];omega,List.range_succ_eq_map,List.map_cons,List.map_map]
 congr 1
 apply List.map_congr_left
 intro i _
 simp only [Function.comp,List.drop_drop]
 rw [show 8*(i+1)=8+8*i by omega]
theorem ZrR (l:List Bool) (h:l.length=8):Zcc (UInt8.ofNat ((ZbR l:Nat):Int).toNat).toNat 8=l:=by
 have hv:=Zkz l
 rw [h] at hv
 rw [Int.toNat_natCast,UInt8.toNat_ofNat_of_lt' (by omega)]
 have:=Zl1 l
 rwa [h] at this
theorem Zew:∀(k:Nat) (l:List Bool),l.length=8*k→Zcr (Ze6 l)=l
 | 0,l,h=>by
  have:l=[]:=List.length_eq_zero_iff.1 (by omega)
  subst this;rfl
 | k+1,l,h=>by
  have e:Ze6 l=UInt8.ofNat ((ZbR (l.take 8):Nat):Int).toNat::Ze6 (l.drop 8):=by unfold Ze6;rw [Zpc l (by omega)];rfl
  rw [e,Zcr,ZrR _ (by rw [List.length_take];omega),Zew k _ (by rw [List.length_drop];omega),List.take_append_drop]
theorem ZmN (l:List Bool):Zcr (Ze6 l)=Zlg l:=by
 have:Ze6 l=Ze6 (Zlg l):=by unfold Ze6;rw [(ZqC l).2]
 rw [this]
 exact Zew _ _ (ZeO l)
def Zrq:List Bool:=[true,false,false,false,false,false,false,false]
def Zie (n:Nat):List Bool:=Zrq++Zcc n 16++Zcc (65535-n) 16
def ZeF (s:Str):Str:=Ze6 (Zie s.length)++s
theorem Zna (s:Str) (hs:s.length≤300):Zcl s=some (ZeF s):=by
 have e1:Zdf 1 3 0 []=some (3,[1]):=by kernel_rfl
 have e2:Zgp 3 [1]=some (8,ZdF Zrq):=by kernel_rfl
 have e3:=Zc3 s.length 16 (by omega) (by omega) Zrq (by simp [Zrq])
 have e4:=Zc3 (65535-s.length) 16 (by omega) (by omega) (Zrq++Zcc s.length 16) (by simp [Zrq,Zah])
 rw [show (Zrq.length:Int)=8 from rfl,show ((16:Nat):Int)=16 from rfl] at e3
 rw [show ((16:Nat):Int)=16 from rfl] at e4
 unfold Zcl
 rw [decide_eq_false (by omega),cond_false,e1]
 simp only [Zab]
 rw [e2]
 simp only [Zab]
 rw [e3]
 simp only [Zab]
 rw [Zaf (by omega) (by omega),show (65535:Int)-(s.length:Int)=((65535-s.length:Nat):Int) by omega,e4]
 simp only [Zab]
 rw [Zad]
 ·rfl
 ·have:=Zhe (Zie s.length)
  unfold Ze6 Zie at this
  rw [this];simp [Zrq,Zah];omega
theorem ZkG (s:Str):(ZeF s).length=5+s.length:=by
 simp only [ZeF,List.length_append,Zhe]
 simp [Zie,Zrq,Zah]
theorem ZpH:Zbm Zmx=32768:=by kernel_rfl
theorem ZpJ:Zbm ZmZ=32768:=by kernel_rfl
theorem Zt0:∀n∈Zmx,n≤15:=by
 intro n hn
 simp only [Zmx,List.mem_append,List.mem_replicate] at hn
 omega
theorem Zt1:∀n∈ZmZ,n≤15:=by
 intro n hn
 simp only [ZmZ,List.mem_replicate] at hn
 omega
theorem ZcJ:Zmx.length=288:=by kernel_rfl
theorem ZfD:ZmZ.length=32:=by kernel_rfl
theorem fix_in (t:Tk) (h:t.Ok):t.In Zmx ZmZ:=by
 cases t with
 | lit c=>show c<Zmx.length;rw [ZcJ];have:c<256:=h;omega
 | far l k=>
  obtain ⟨h1,h2,h3,h4⟩:=h
  have a:=(Zek l h1 h2).2.2.1
  have b:=(ZeV k h3 h4).2.2.1
  show 257+ZbU ZaG l<Zmx.length∧ZbU ZaU k<ZmZ.length
  rw [ZcJ,ZfD];omega
theorem Zh6 (s:Str):∀t∈Zhc s,t.Ok:=ZhN s _ 0 (Nat.zero_le _)
theorem Zfv (s:Str):(Zhc s).length≤s.length:=Zhb s _ 0
def Zrx (s:Str):List Bool:=Zcc 1 1++Zcc 1 2++ZeD Zmx ZmZ (Zhc s)
def Zfj (s:Str):Str:=Ze6 (Zrx s)
theorem ZnI (s:Str) (hs:s.length≤300):Zcq s=some (Zfj s):=by
 have hl:=Zfv s
 have e1:=Zc3 1 1 (by omega) (by omega) [] (by simp)
 have e2:=Zc3 1 2 (by omega) (by omega) ([]++Zcc 1 1) (by simp [Zah])
 have e3:=ZjK Zmx ZmZ (by rw [ZpH];omega) (by rw [ZpJ];omega) Zt0 Zt1 (by rw [ZcJ];omega) (by rw [ZfD];omega) (by rw [ZcJ];omega) (Zhc s) (fun t h=>⟨Zh6 s t h,fix_in t (Zh6 s t h)⟩) (by omega) ([]++Zcc 1 1++Zcc 1 2) (by simp [Zah])
 rw [show ((1:Nat):Int)=1 from rfl,show (([]:List Bool).length:Int)=0 from rfl,show ZdF []=[] by kernel_rfl] at e1
 rw [show ((1:Nat):Int)=1 from rfl,show ((2:Nat):Int)=2 from rfl] at e2
 unfold Zcq
 rw [decide_eq_false (by omega),cond_false,e1]
 simp only [Zab]
 rw [e2]
 simp only [Zab]
 rw [Zhx,Zh9 s hs]
 simp only [Zab]
 rw [e3]
 rfl
end Ev
end
section
namespace Ev
open Go
abbrev HT:=Nat×Nat×List Nat
def Zev (out:List Nat) (S:List Nat):List Nat:=(List.range out.length).map fun i=>out.getD i 0+S.count i
theorem ZaF (out S:List Nat):(Zev out S).length=out.length:=by simp [Zev]
theorem Zb7 (out S:List Nat) (i:Nat) (h:i<out.length):(Zev out S).getD i 0=out.getD i 0+S.count i:=by
 rw [Zam (by rw [ZaF];exact h)]
 simp [Zev]
theorem ZrU (out:List Nat) {S S':List Nat} (h:S.Perm S'):Zev out S=Zev out S':=by
 unfold Zev
 exact List.map_congr_left fun i _=>by rw [h.count_eq]
theorem Ze4 (out:List Nat):Zev out []=out:=by
 apply List.ext_getElem
 ·exact ZaF _ _
 ·intro i h1 h2
  have:=Zb7 out [] i h2
  rw [Zam h1,Zam h2] at this
  simpa using this
theorem Zji (out S:List Nat) (s:Nat) (h:s<out.length):Zev out (S++[s])=(Zev out S).set s ((Zev out S).getD s 0+1):=by
 apply List.ext_getElem
 ·simp [ZaF]
 ·intro i h1 h2
  rw [ZaF] at h1
  have e1:=Zb7 out (S++[s]) i h1
  have e2:=Zb7 out S i h1
  rw [Zam (by rw [ZaF];exact h1)] at e1 e2
  have e3:=Zb7 out S s h
  rw [e1,List.getElem_set,e2,List.count_append]
  by_cases c:s=i
  ·subst c;rw [if_pos rfl,e3];simp;omega
  ·rw [if_neg c];simp [List.count_cons,c]
def Zgw (out:List Nat) (S:List Nat):Nat:=(S.map fun s=>2^(15-out.getD s 0)).sum
def Zgf:Nat→Nat
 | 0=>0
 | 1=>1
 | n+2=>Zgf n+Zgf (n+1)
theorem Zt2 (n:Nat):Zgf n≤Zgf (n+1):=by
 cases n with
 | zero=>decide
 | succ n=>show Zgf (n+1)≤Zgf n+Zgf (n+1);omega
theorem ZiX {a b:Nat} (h:a≤b):Zgf a≤Zgf b:=by
 induction h with
 | refl=>exact Nat.le_refl _
 | step _ ih=>exact Nat.le_trans ih (Zt2 _)
theorem Zlh (n:Nat):1≤Zgf (n+1):=ZiX (a:=1) (by omega)
theorem Zge {d c:Nat} (h:Zgf (d+2)≤c) (hc:c≤400):d≤12:=by
 rcases Nat.lt_or_ge 12 d with h13 | h13
 ·have:Zgf 15≤Zgf (d+2):=ZiX (by omega)
  have:Zgf 15=610:=by decide
  omega
 ·exact h13
structure TOk (out:List Nat) (T:Nat) (e:HT):Prop where
 fin:e.2.1∈e.2.2
 fle:∀s∈e.2.2,e.2.1≤s
 lt:∀s∈e.2.2,s<out.length
 kr:Zgw out e.2.2=32768
 dep:∃d,(∀s∈e.2.2,out.getD s 0≤d)∧Zgf (d+2)≤e.1∧(1≤d→Zgf (d+1)≤T)
 top:T≤e.1
structure ZnQ (out:List Nat) (l:List HT) (T:Nat) (U:List Nat) (tot:Nat):Prop where
 all:∀e∈l,TOk out T e
 perm:(l.flatMap fun e=>e.2.2).Perm U
 sum:(l.map fun e=>e.1).sum=tot
theorem Zn3 {α:Type} {l l':List α} (f:α→Nat) (h:l.Perm l'):(l.map f).sum=(l'.map f).sum:=by
 induction h with
 | nil=>rfl
 | cons x _ ih=>simp [ih]
 | swap x y l=>simp only [List.map_cons,List.sum_cons];omega
 | trans _ _ a b=>exact a.trans b
theorem Zrw {α β:Type} {l l':List α} (f:α→List β) (h:l.Perm l'):(l.flatMap f).Perm (l'.flatMap f):=by
 induction h with
 | nil=>exact .refl _
 | cons x _ ih=>simpa using List.Perm.append_left _ ih
 | swap x y l=>
  simp only [List.flatMap_cons,←List.append_assoc]
  exact List.Perm.append_right _ List.perm_append_comm
 | trans _ _ a b=>exact a.trans b
theorem ZnQ.of_perm {out:List Nat} {l l':List HT} {T:Nat} {U:List Nat} {tot:Nat} (h:ZnQ out l T U tot) (p:l.Perm l'):ZnQ out l' T U tot:=
 ⟨fun e he=>h.all e (p.mem_iff.2 he),(Zrw _ p).symm.trans h.perm,(Zn3 _ p).symm.trans h.sum⟩
theorem Zqn (out S:List Nat) (h:∀s∈S,s<out.length∧out.getD s 0≤14) (out':List Nat) (h':∀s∈S,out'.getD s 0=out.getD s 0+1):2*Zgw out' S=Zgw out S:=by
 induction S with
 | nil=>rfl
 | cons s S ih=>
  have:=ih (fun x hx=>h x (List.mem_cons_of_mem _ hx)) (fun x hx=>h' x (List.mem_cons_of_mem _ hx))
  have h1:=h s (List.mem_cons_self ..)
  have h2:=h' s (List.mem_cons_self ..)
  simp only [Zgw,List.map_cons,List.sum_cons] at this ⊢
  rw [h2,Nat.mul_add,this]
  congr 1
  rw [show 15-out.getD s 0=(15-(out.getD s 0+1))+1 by omega,Nat.pow_succ,Nat.mul_comm]
theorem Zqm (out out' S:List Nat) (h':∀s∈S,out'.getD s 0=out.getD s 0):Zgw out' S=Zgw out S:=by
 unfold Zgw
 congr 1
 exact List.map_congr_left fun s hs=>by rw [h' s hs]
theorem Zfw (out a b:List Nat):Zgw out (a++b)=Zgw out a+Zgw out b:=by simp [Zgw]
def ZhG (a b:HT):HT:=(a.1+b.1,(if b.2.1<a.2.1 then b.2.1 else a.2.1),a.2.2++b.2.2)
theorem ZnQ.step {out:List Nat} {a b:HT} {r:List HT} {T:Nat} {U:List Nat} {tot:Nat} (h:ZnQ out (a::b::r) T U tot) (hU:U.Nodup) (htot:tot≤400) (hab:a.1≤b.1) (hr:∀e∈r,b.1≤e.1) :
  ZnQ (Zev out (a.2.2++b.2.2)) (ZhG a b::r) b.1 U tot:=by
 have ha:=h.all a (by simp)
 have hb:=h.all b (by simp)
 have hsum:=h.sum
 simp only [List.map_cons,List.sum_cons] at hsum
 have hp:=h.perm
 simp only [List.flatMap_cons] at hp
 have hnd:=(hp.nodup_iff).2 hU
 rw [←List.append_assoc] at hnd
 obtain ⟨da,a1,a2,a3⟩:=ha.dep
 obtain ⟨db,b1,b2,b3⟩:=hb.dep
 have hda:=Zge a2 (by omega)
 have hdb:=Zge b2 (by omega)
 have hlt:∀s∈a.2.2++b.2.2,s<out.length:=fun s hs=>(List.mem_append.1 hs).elim (ha.lt s) (hb.lt s)
 have hone:∀s∈a.2.2++b.2.2,(Zev out (a.2.2++b.2.2)).getD s 0=out.getD s 0+1:=fun s hs=>by
  rw [Zb7 out _ s (hlt s hs)]
  have:=(List.nodup_append.1 hnd).1
  rw [this.count,if_pos hs]
 have hother:∀e∈r,∀s∈e.2.2,(Zev out (a.2.2++b.2.2)).getD s 0=out.getD s 0:=fun e he s hs=>by
  rw [Zb7 out _ s ((h.all e (by simp [he])).lt s hs),List.count_eq_zero.2 (fun hm=>(List.nodup_append.1 hnd).2.2 s hm s (List.mem_flatMap.2 ⟨e,he,hs⟩) rfl)];rfl
 refine ⟨fun e he=>?_,?_,?_⟩
 ·rcases List.mem_cons.1 he with rfl | he
  ·have pa:=Zlh (da+1)
   have pb:=Zlh (db+1)
   refine ⟨?_,fun s hs=>?_,fun s hs=>by rw [ZaF];exact hlt s hs,?_,⟨max da db+1,fun s hs=>?_,?_,fun _=>?_⟩,Nat.le_add_left _ _⟩
   ·show (if b.2.1<a.2.1 then b.2.1 else a.2.1)∈a.2.2++b.2.2
    split
    ·exact List.mem_append_right _ hb.fin
    ·exact List.mem_append_left _ ha.fin
   ·show (if b.2.1<a.2.1 then b.2.1 else a.2.1)≤s
    rcases List.mem_append.1 hs with hs | hs
    ·have:=ha.fle s hs;split<;>omega
    ·have:=hb.fle s hs;split<;>omega
   ·have h2:=Zqn out (a.2.2++b.2.2) (fun s hs=>⟨hlt s hs,by
     rcases List.mem_append.1 hs with hs | hs
     ·have:=a1 s hs;omega
     ·have:=b1 s hs;omega⟩) _ hone
    rw [Zfw out,ha.kr,hb.kr] at h2
    show Zgw _ (a.2.2++b.2.2)=32768
    omega
   ·rw [hone s hs]
    rcases List.mem_append.1 hs with hs | hs
    ·have:=a1 s hs;omega
    ·have:=b1 s hs;omega
   ·show Zgf (max da db+1+2)≤a.1+b.1
    have e:Zgf (max da db+1+2)=Zgf (max da db+1)+Zgf (max da db+2):=rfl
    rw [e]
    rcases Nat.le_total db da with hd | hd
    ·rw [Nat.max_eq_left hd]
     have:Zgf (da+1)≤b.1:=by
      rcases Nat.eq_zero_or_pos da with h0 | h0
      ·subst h0;exact Nat.le_trans (Zlh 0 |> fun _=>(by simpa [Zgf] using pb)) b2
      ·exact Nat.le_trans (a3 h0) hb.top
     omega
    ·rw [Nat.max_eq_right hd]
     have:Zgf (db+1)≤a.1:=by
      rcases Nat.eq_zero_or_pos db with h0 | h0
      ·subst h0;exact Nat.le_trans (by simpa [Zgf] using pa) a2
      ·exact Nat.le_trans (b3 h0) ha.top
     omega
   ·show Zgf (max da db+1+1)≤b.1
    rcases Nat.le_total db da with hd | hd
    ·rw [Nat.max_eq_left hd];exact Nat.le_trans a2 hab
    ·rw [Nat.max_eq_right hd];exact b2
  ·have he':=h.all e (by simp [he])
   obtain ⟨d,d1,d2,d3⟩:=he'.dep
   exact ⟨he'.fin,he'.fle,fun s hs=>by rw [ZaF];exact he'.lt s hs,(Zqm _ _ _ (hother e he)).trans he'.kr,
    ⟨d,fun s hs=>by rw [hother e he s hs];exact d1 s hs,d2,fun h1=>Nat.le_trans (d3 h1) hb.top⟩,hr e he⟩
 ·simp only [List.flatMap_cons,ZhG,List.append_assoc];exact hp
 ·simp only [List.map_cons,List.sum_cons,ZhG];omega
end Ev
end
section
namespace Ev
open Go
def ltH (x y:HT):Bool:=decide (x.1<y.1)||(decide (x.1=y.1)&&decide (x.2.1<y.2.1))
def HT.d:HT:=(0,0,[])
def Zf2 (l:List HT):Nat→Nat→Nat→Nat
 | 0,a,_=>a
 | f+1,a,i=>Zf2 l f (if ltH (l.getD i HT.d) (l.getD a HT.d) then i else a) (i+1)
def lst (l:List HT):Nat:=Zf2 l (l.length-1) 0 1
def less (l:List HT) (k:Nat):List HT:=l.take k++l.drop (k+1)
theorem ZfA (l:List HT):∀(f a i:Nat),i+f=l.length→a<l.length→(∀j,j<i→(l.getD a HT.d).1≤(l.getD j HT.d).1)→
  Zf2 l f a i<l.length∧∀j,j<l.length→(l.getD (Zf2 l f a i) HT.d).1≤(l.getD j HT.d).1
 | 0,a,i,h,ha,hj=>⟨ha,fun j hl=>hj j (by omega)⟩
 | f+1,a,i,h,ha,hj=>by
  rw [Zf2]
  by_cases c:ltH (l.getD i HT.d) (l.getD a HT.d)=true
  ·rw [if_pos c]
   refine ZfA l f i (i+1) (by omega) (by omega) fun j hl=>?_
   have:(l.getD i HT.d).1≤(l.getD a HT.d).1:=by
    simp only [ltH,Bool.or_eq_true,Bool.and_eq_true,decide_eq_true_eq] at c;omega
   by_cases e:j=i
   ·subst e;exact Nat.le_refl _
   ·have:=hj j (by omega);omega
  ·rw [if_neg c]
   refine ZfA l f a (i+1) (by omega) ha fun j hl=>?_
   by_cases e:j=i
   ·subst e
    simp only [ltH,Bool.or_eq_true,Bool.and_eq_true,decide_eq_true_eq] at c;omega
   ·exact hj j (by omega)
theorem ZfW (l:List HT) (h:0<l.length):lst l<l.length∧∀e∈l,(l.getD (lst l) HT.d).1≤e.1:=by
 have:=ZfA l (l.length-1) 0 1 (by omega) h (fun j hj=>by rw [show j=0 by omega];exact Nat.le_refl _)
 refine ⟨this.1,fun e he=>?_⟩
 obtain ⟨j,hj,rfl⟩:=List.getElem_of_mem he
 have h2:=this.2 j hj
 rw [Zam hj] at h2
 exact h2
theorem Ziz (l:List HT) (k:Nat) (h:k<l.length):l.Perm (l.getD k HT.d::less l k):=by
 have e:l=l.take k++(l.getD k HT.d::l.drop (k+1)):=by
  rw [Zam h,←List.drop_eq_getElem_cons h,List.take_append_drop]
 have p:=List.perm_middle (a:=l.getD k HT.d) (l₁:=l.take k) (l₂:=l.drop (k+1))
 have:l.Perm (l.take k++(l.getD k HT.d::l.drop (k+1))):=by rw [←e]
 exact this.trans p
theorem Zfz (l:List HT) (k:Nat) (h:k<l.length):(less l k).length+1=l.length:=by
 have:=(Ziz l k h).length_eq
 simpa using this.symm
def Zp6 (l:List HT):HT:=l.getD (lst l) HT.d
def Zo5 (l:List HT):HT:=Zp6 (less l (lst l))
def Zjz (l:List HT):List HT:=less (less l (lst l)) (lst (less l (lst l)))
def Zff:Nat→List Nat→List HT→List Nat
 | 0,out,_=>out
 | n+1,out,l=>if 1<l.length then Zff n (Zev out ((Zp6 l).2.2++(Zo5 l).2.2)) (Zjz l++[ZhG (Zp6 l) (Zo5 l)]) else out
theorem ZtC (l:List HT) (h:1<l.length):l.Perm (Zp6 l::Zo5 l::Zjz l)∧(Zp6 l).1≤(Zo5 l).1∧(∀e∈Zjz l,(Zo5 l).1≤e.1)∧(Zjz l).length+2=l.length:=by
 obtain ⟨h1,h2⟩:=ZfW l (by omega)
 have p1:=Ziz l (lst l) h1
 have n1:=Zfz l (lst l) h1
 obtain ⟨h3,h4⟩:=ZfW (less l (lst l)) (by omega)
 have p2:=Ziz (less l (lst l)) _ h3
 have n2:=Zfz (less l (lst l)) _ h3
 have pp:l.Perm (Zp6 l::Zo5 l::Zjz l):=p1.trans (p2.cons _)
 refine ⟨pp,h2 _ (pp.mem_iff.2 (by simp)),fun e he=>h4 e (p2.mem_iff.2 (List.mem_cons_of_mem _ he)),?_⟩
 unfold Zjz;omega
theorem ZnQ.next {out:List Nat} {l:List HT} {T:Nat} {U:List Nat} {tot:Nat} (h:ZnQ out l T U tot) (hU:U.Nodup) (htot:tot≤400) (hl:1<l.length) :
  ZnQ (Zev out ((Zp6 l).2.2++(Zo5 l).2.2)) (Zjz l++[ZhG (Zp6 l) (Zo5 l)]) (Zo5 l).1 U tot∧(Zjz l++[ZhG (Zp6 l) (Zo5 l)]).length+1=l.length:=by
 obtain ⟨p,h1,h2,h3⟩:=ZtC l hl
 refine ⟨((h.of_perm p).step hU htot h1 h2).of_perm ?_,by simp;omega⟩
 exact (List.perm_append_comm (l₁:=[ZhG (Zp6 l) (Zo5 l)]) (l₂:=Zjz l))
theorem ZiJ {U:List Nat} {tot:Nat} (hU:U.Nodup) (htot:tot≤400):∀(n:Nat) (out:List Nat) (l:List HT) (T:Nat),l.length=n+1→ZnQ out l T U tot→
  (Zff n out l).length=out.length∧(∀i,i<out.length→i∉U→(Zff n out l).getD i 0=out.getD i 0)∧∃e T',ZnQ (Zff n out l) [e] T' U tot
 | 0,out,l,T,hl,h=>by
  obtain ⟨e,rfl⟩:=List.length_eq_one_iff.1 hl
  exact ⟨rfl,fun _ _ _=>rfl,e,T,h⟩
 | n+1,out,l,T,hl,h=>by
  obtain ⟨h1,h2⟩:=h.next hU htot (by omega)
  have ih:=ZiJ hU htot n _ _ _ (by omega) h1
  rw [Zff,if_pos (by omega)]
  refine ⟨ih.1.trans (ZaF _ _),fun i hi hn=>?_,ih.2.2⟩
  rw [ih.2.1 i (by rw [ZaF];exact hi) hn,Zb7 _ _ _ hi,List.count_eq_zero.2,Nat.add_zero]
  intro hm
  apply hn
  obtain ⟨p,_⟩:=ZtC l (by omega)
  refine h.perm.mem_iff.1 (List.mem_flatMap.2 ?_)
  rcases List.mem_append.1 hm with hm | hm
  ·exact ⟨_,p.mem_iff.2 (by simp),hm⟩
  ·exact ⟨_,p.mem_iff.2 (by simp),hm⟩
def ZbJ (ns:List Nat):List Nat:=(List.range ns.length).filter fun i=>decide (0<ns.getD i 0)
theorem Zgq (n:Nat) (r:List Nat):ZbJ (n::r)=(if 0<n then [0] else [])++(ZbJ r).map (· + 1):=by
 unfold ZbJ
 rw [List.length_cons,List.range_succ_eq_map,List.filter_cons,List.filter_map]
 by_cases h:0<n
 ·rw [if_pos (by simpa using h),if_pos h];rfl
 ·rw [if_neg (by simpa using h),if_neg h];rfl
theorem ZeU:∀ns,Zd4 ns=(ZbJ ns).length
 | []=>rfl
 | n::r=>by
  rw [Zgq,Zd4,ZeU r]
  by_cases h:0<n
  ·rw [if_pos h,if_pos h];simp;omega
  ·rw [if_neg h,if_neg h];simp
theorem ZfB:∀ns,Zbm ns=Zgw ns (ZbJ ns)
 | []=>rfl
 | n::r=>by
  have e:Zgw (n::r) ((ZbJ r).map (· + 1))=Zgw r (ZbJ r):=by
   unfold Zgw;rw [List.map_map];rfl
  rw [Zgq,Zbm,ZfB r,Zfw,e]
  by_cases h:0<n
  ·rw [if_pos h,if_pos h];simp [Zgw]
  ·rw [if_neg h,if_neg h];simp [Zgw]
theorem Zic:∀ns:List Nat,((ZbJ ns).map fun i=>ns.getD i 0).sum=ns.sum
 | []=>rfl
 | n::r=>by
  have e:(((ZbJ r).map (· + 1)).map fun i=>(n::r).getD i 0)=(ZbJ r).map fun i=>r.getD i 0:=by rw [List.map_map];rfl
  rw [Zgq,List.map_append,e,List.sum_append,Zic r,List.sum_cons]
  by_cases h:0<n
  ·rw [if_pos h];simp
  ·rw [if_neg h];simp;omega
theorem Zcg (ns:List Nat) (i:Nat):i∈ZbJ ns↔i<ns.length∧0<ns.getD i 0:=by
 simp [ZbJ]
theorem Zh5 (ns:List Nat):(ZbJ ns).Nodup:=List.Pairwise.filter _ List.nodup_range
def Zf1 (cs:List Nat):List HT:=(ZbJ cs).map fun i=>(cs.getD i 0,i,[i])
def ZcI (cs:List Nat):List Nat:=
 if (ZbJ cs).length=1 then (List.replicate cs.length 0).set ((ZbJ cs).getD 0 0) 1 else Zff ((ZbJ cs).length-1) (List.replicate cs.length 0) (Zf1 cs)
theorem Zcj (n i:Nat):(List.replicate n 0).getD i 0=0:=by
 by_cases h:i<n
 ·rw [Zam (by simpa using h)];simp
 ·simp [List.getD,Nat.le_of_not_lt h]
theorem Zj7 (cs:List Nat):ZnQ (List.replicate cs.length 0) (Zf1 cs) 0 (ZbJ cs) cs.sum:=by
 refine ⟨fun e he=>?_,?_,?_⟩
 ·obtain ⟨i,hi,rfl⟩:=List.mem_map.1 he
  obtain ⟨h1,h2⟩:=(Zcg cs i).1 hi
  refine ⟨by simp,fun s hs=>?_,fun s hs=>?_,?_,⟨0,fun s hs=>?_,?_,fun h=>?_⟩,Nat.zero_le _⟩
  ·have:s=i:=by simpa using hs
   subst this;exact Nat.le_refl _
  ·have:s=i:=by simpa using hs
   subst this;simpa using h1
  ·simp only [Zgw,List.map_cons,List.map_nil,List.sum_cons,List.sum_nil,Zcj];rfl
  ·rw [Zcj];exact Nat.le_refl _
  ·show 1≤cs.getD i 0;omega
  ·omega
 ·unfold Zf1
  rw [List.flatMap_map]
  have:∀l:List Nat,(l.flatMap fun i=>[i])=l:=fun l=>by induction l<;>simp_all
  rw [this]
 ·unfold Zf1
  rw [List.map_map]
  exact Zic cs
structure LOk (cs out:List Nat) (d:Nat):Prop where
 len:out.length=cs.length
 pos:∀i,0<cs.getD i 0↔0<out.getD i 0
 le:∀n∈out,n≤d
 ok:Zbm out=32768∨Zd4 out=1∧Zbm out=16384
theorem Zfr (cs out:List Nat) (h:out.length=cs.length) (hp:∀i,0<cs.getD i 0↔0<out.getD i 0):ZbJ out=ZbJ cs:=by
 unfold ZbJ
 rw [h]
 exact List.filter_congr fun i _=>by simp only [decide_eq_decide];exact (hp i).symm
theorem Zn6 (out:List Nat):∀S:List Nat,S≠[]→0<Zgw out S
 | [],h=>absurd rfl h
 | s::S,_=>by
  have:=Nat.two_pow_pos (15-out.getD s 0)
  simp only [Zgw,List.map_cons,List.sum_cons];omega
theorem Zk4 (cs:List Nat) (h0:ZbJ cs≠[]) (ht:cs.sum≤400):∃d,d≤12∧LOk cs (ZcI cs) d∧(d≤1∨Zgf (d+2)≤cs.sum):=by
 have hU:=Zh5 cs
 by_cases h1:(ZbJ cs).length=1
 ·obtain ⟨k,hk⟩:=List.length_eq_one_iff.1 h1
  have hm:k<cs.length∧0<cs.getD k 0:=(Zcg cs k).1 (by rw [hk];simp)
  have e:ZcI cs=(List.replicate cs.length 0).set k 1:=by unfold ZcI;rw [if_pos h1,hk];rfl
  have hlen:(ZcI cs).length=cs.length:=by rw [e];simp
  have hget:∀i,(ZcI cs).getD i 0=if i=k then 1 else 0:=fun i=>by
   rw [e]
   by_cases hi:i<cs.length
   ·rw [Zam (by simpa using hi),List.getElem_set]
    by_cases c:k=i
    ·rw [if_pos c,if_pos c.symm]
    ·rw [if_neg c,if_neg (fun x=>c x.symm)];simp
   ·rw [if_neg (by omega)]
    simp [List.getD,Nat.le_of_not_lt hi]
  have hpos:∀i,0<cs.getD i 0↔0<(ZcI cs).getD i 0:=fun i=>by
   rw [hget i]
   constructor
   ·intro h
    have hi:i<cs.length:=by
     rcases Nat.lt_or_ge i cs.length with h' | h'
     ·exact h'
     ·rw [show cs.getD i 0=0 by simp [List.getD,h']] at h;omega
    have:i∈ZbJ cs:=(Zcg cs i).2 ⟨hi,h⟩
    rw [hk] at this
    rw [if_pos (by simpa using this)];omega
   ·intro h
    by_cases c:i=k
    ·rw [c];exact hm.2
    ·rw [if_neg c] at h;omega
  have hc:=Zfr cs (ZcI cs) hlen hpos
  refine ⟨1,by omega,⟨hlen,hpos,fun n hn=>?_,.inr ⟨by rw [ZeU,hc];exact h1,?_⟩⟩,.inl (Nat.le_refl _)⟩
  ·obtain ⟨j,hj,rfl⟩:=List.getElem_of_mem hn
   have:=hget j
   rw [Zam hj] at this
   rw [this];split<;>omega
  ·rw [ZfB,hc,hk]
   simp only [Zgw,List.map_cons,List.map_nil,List.sum_cons,List.sum_nil,hget,if_true];rfl
 ·have hn:0<(ZbJ cs).length:=List.length_pos_iff.2 h0
  have e:ZcI cs=Zff ((ZbJ cs).length-1) (List.replicate cs.length 0) (Zf1 cs):=by unfold ZcI;rw [if_neg h1]
  obtain ⟨l1,l2,t,T',hI⟩:=ZiJ hU ht ((ZbJ cs).length-1) (List.replicate cs.length 0) (Zf1 cs) 0 (by simp [Zf1];omega) (Zj7 cs)
  rw [←e] at l1 l2 hI
  rw [List.length_replicate] at l1 l2
  have tok:=hI.all t (by simp)
  obtain ⟨d,d1,d2,d3⟩:=tok.dep
  have hts:t.1=cs.sum:=by simpa using hI.sum
  have hpp:t.2.2.Perm (ZbJ cs):=by simpa using hI.perm
  have hkr:Zgw (ZcI cs) (ZbJ cs)=32768:=by
   have:=Zn3 (fun s=>2^(15-(ZcI cs).getD s 0)) hpp
   unfold Zgw;rw [←this];exact tok.kr
  have hd:d≤12:=Zge d2 (by omega)
  have hpos:∀i,0<cs.getD i 0↔0<(ZcI cs).getD i 0:=fun i=>by
   constructor
   ·intro h
    have hi:i<cs.length:=by
     rcases Nat.lt_or_ge i cs.length with h' | h'
     ·exact h'
     ·rw [show cs.getD i 0=0 by simp [List.getD,h']] at h;omega
    have hmem:i∈ZbJ cs:=(Zcg cs i).2 ⟨hi,h⟩
    rcases Nat.eq_zero_or_pos ((ZcI cs).getD i 0) with hz | hz
    ·obtain ⟨a,b,hab⟩:=List.append_of_mem hmem
     rw [hab,Zfw] at hkr
     have ec:Zgw (ZcI cs) (i::b)=32768+Zgw (ZcI cs) b:=by simp only [Zgw,List.map_cons,List.sum_cons,hz]
     have ha:a=[]:=by
      rcases Classical.em (a=[]) with h' | h'
      ·exact h'
      ·have:=Zn6 (ZcI cs) a h';omega
     have hb:b=[]:=by
      rcases Classical.em (b=[]) with h' | h'
      ·exact h'
      ·have:=Zn6 (ZcI cs) b h';omega
     rw [hab,ha,hb] at h1
     exact absurd rfl h1
    ·exact hz
   ·intro h
    rcases Nat.lt_or_ge i cs.length with hi | hi
    ·rcases Classical.em (i∈ZbJ cs) with hm | hm
     ·exact ((Zcg cs i).1 hm).2
     ·rw [l2 i hi hm,Zcj] at h;omega
    ·rw [show (ZcI cs).getD i 0=0 by simp [List.getD,l1,hi]] at h;omega
  have hc:=Zfr cs (ZcI cs) l1 hpos
  refine ⟨d,hd,⟨l1,hpos,fun n hn=>?_,.inl (by rw [ZfB,hc];exact hkr)⟩,.inr (by rw [←hts];exact d2)⟩
  obtain ⟨j,hj,rfl⟩:=List.getElem_of_mem hn
  rcases Classical.em (j∈ZbJ cs) with hm | hm
  ·have:=d1 j (hpp.mem_iff.2 hm)
   rwa [Zam hj] at this
  ·have:=l2 j (by omega) hm
   rw [Zam hj,Zcj] at this
   omega
end Ev
end
section
namespace Ev
open Go
theorem ZtO (a b c d:Nat):(bif decide ((a:Int)<(b:Int)) then some true else bif ((a:Int)==(b:Int)) then some (decide ((c:Int)<(d:Int))) else some false)=some (decide (a<b)||(decide (a=b)&&decide (c<d))):=by
 by_cases h1:a<b
 ·rw [decide_eq_true (show (a:Int)<(b:Int) by omega),decide_eq_true h1];rfl
 ·rw [decide_eq_false (show ¬(a:Int)<(b:Int) by omega),decide_eq_false h1]
  by_cases h2:a=b
  ·subst h2
   rw [show ((a:Int)==(a:Int))=true by simp,decide_eq_true (rfl:a=a),cond_false,cond_true,Bool.false_or,Bool.true_and]
   congr 1
   simp
  ·rw [show ((a:Int)==(b:Int))=false by simp;omega,decide_eq_false h2];rfl
theorem ZnQ.some {out:List Nat} {l:List HT} {T:Nat} {U:List Nat} {tot:Nat} (h:ZnQ out l T U tot) (ht:tot≤400) (hU:U.length≤400) (e:HT) (he:e∈l):e.1≤400∧e.2.2.length≤400∧e.2.1<out.length∧∀s∈e.2.2,s<out.length∧out.getD s 0≤1000:=by
 have hk:=h.all e he
 have h1:e.1≤tot:=by
  rw [←h.sum]
  obtain ⟨a,b,rfl⟩:=List.append_of_mem he
  simp;omega
 obtain ⟨d,d1,d2,d3⟩:=hk.dep
 have hd:=Zge d2 (by omega)
 refine ⟨by omega,?_,hk.lt _ hk.fin,fun s hs=>⟨hk.lt s hs,by have:=d1 s hs;omega⟩⟩
 have:=h.perm.length_eq
 obtain ⟨a,b,rfl⟩:=List.append_of_mem he
 simp only [List.flatMap_append,List.flatMap_cons,List.length_append] at this
 omega
theorem Zha (cs:List Nat):(ZbJ cs).length≤cs.length:=by
 have:=List.length_filter_le (fun i=>decide (0<cs.getD i 0)) (List.range cs.length)
 rw [List.length_range] at this
 exact this
end Ev
end
section
namespace Ev
open Go
abbrev QT:=HT×List Nat
def QT.d:QT:=(HT.d,[])
def zQ (q:QT):Int×List Int:=((q.1.1:Int),zs q.2)
def QOk (q:QT):Prop:=q.2.Perm q.1.2.2∧q.2.getD 0 0=q.1.2.1∧0<q.2.length
theorem Zqc (Q:List QT) (i:Nat):(Q.map zQ).getD i (0,[])=zQ (Q.getD i QT.d):=by
 simp only [List.getD_eq_getElem?_getD,List.getElem?_map]
 cases Q[i]?<;>rfl
theorem ZhV (Q:List QT) (i:Nat):(Q.map Prod.fst).getD i HT.d=(Q.getD i QT.d).1:=by
 simp only [List.getD_eq_getElem?_getD,List.getElem?_map]
 cases Q[i]?<;>rfl
theorem ZsE (x y:QT) (hx:QOk x) (hy:QOk y):(bif decide ((zQ x).1<(zQ y).1) then some true else bif ((zQ x).1==(zQ y).1) then some (decide (((zQ x).2).getD 0 0<((zQ y).2).getD 0 0)) else some false)=some (ltH x.1 y.1):=by
 have ex:((zQ x).2).getD 0 0=(x.1.2.1:Int):=by unfold zQ;rw [Za9,hx.2.1]
 have ey:((zQ y).2).getD 0 0=(y.1.2.1:Int):=by unfold zQ;rw [Za9,hy.2.1]
 rw [ex,ey]
 exact ZtO x.1.1 y.1.1 x.1.2.1 y.1.2.1
theorem QOk.idx {x:QT} (h:QOk x):(decide ((0:Int)≤0)&&decide ((0:Int)<((zQ x).2).length))=true:=by
 have:=h.2.2
 unfold zQ
 simp [Zaj];omega
theorem ZkW (Q:List QT) (hn:Q.length≤1000) (hQ:∀q∈Q,QOk q) (o:Int) (o1:List Int):∀(j a i:Nat),i+j=Q.length→a<Q.length→
  ZaP.l0 (j+1) (Q.map zQ,(a:Int),Q.map zQ,(Q.length:Int),(i:Int),o,o1)=some (Q.map zQ,(Zf2 (Q.map Prod.fst) j a i:Int),o,o1)
 | 0,a,i,h,ha=>by
  rw [ZaP.l0.succ];simp only [ZaP.l0.step]
  rw [Za8 (by omega)];rfl
 | j+1,a,i,h,ha=>by
  have hi:i<Q.length:=by omega
  have qi:QOk (Q.getD i QT.d):=by rw [Zam hi];exact hQ _ (List.getElem_mem hi)
  have qa:QOk (Q.getD a QT.d):=by rw [Zam ha];exact hQ _ (List.getElem_mem ha)
  rw [ZaP.l0.succ];simp only [ZaP.l0.step,List.length_map]
  rw [Zbd hi,cond_true,Zaa _ ZbC,Zaa _ (ZaM ha),Zaa _ (ZaM ha),Int.toNat_natCast,Int.toNat_natCast,Zqc,Zqc,Zaa _ qi.idx,Zaa _ (ZaM ha),Zaa _ qa.idx]
  rw [ZsE _ _ qi qa,Zaf (by omega) (by omega),show (i:Int)+1=((i+1:Nat):Int) by omega,Zf2,ZhV,ZhV]
  simp only [Zab]
  cases ltH (Q.getD i QT.d).1 (Q.getD a QT.d).1
  ·exact ZkW Q hn hQ o o1 j a (i+1) (by omega) ha
  ·exact ZkW Q hn hQ o o1 j i (i+1) (by omega) hi
theorem ZsF (L:List HT) (h:0<L.length):Zf2 L L.length 0 0=lst L:=by
 obtain ⟨n,hn⟩:∃n,L.length=n+1:=⟨L.length-1,by omega⟩
 have e:ltH (L.getD 0 HT.d) (L.getD 0 HT.d)=false:=by simp [ltH]
 unfold lst
 rw [hn,Zf2,e];rfl
def ZeL (Q:List QT) (k:Nat):List QT:=Q.take k++Q.drop (k+1)
theorem Zok (Q:List QT) (hn:Q.length≤1000) (hQ:∀q∈Q,QOk q) (h0:0<Q.length) :
  ZaP (Q.map zQ)=some ((zQ (Q.getD (lst (Q.map Prod.fst)) QT.d)).1,(zQ (Q.getD (lst (Q.map Prod.fst)) QT.d)).2,(ZeL Q (lst (Q.map Prod.fst))).map zQ):=by
 have hk:=(ZfW (Q.map Prod.fst) (by simpa using h0)).1
 rw [List.length_map] at hk
 have hz:=ZsF (Q.map Prod.fst) (by simpa using h0)
 rw [List.length_map] at hz
 have:=ZkW Q hn hQ 0 [] Q.length 0 0 (by omega) h0
 rw [hz,show ((0:Nat):Int)=0 from rfl] at this
 unfold ZaP
 rw [List.length_map,ZaY,this]
 simp only [Zab,List.length_map]
 generalize lst (Q.map Prod.fst)=k at hk
 rw [Zaf (n:=(k:Int)+1) (by omega) (by omega),show (k:Int)+1=((k+1:Nat):Int) by omega,Int.toNat_natCast,Int.toNat_natCast]
 rw [Zaa _ (ZaM hk),Zaa _ (by simp;omega),Zad (by simp;omega),Zaa _ (by simp;omega),Zad (by simp;omega),Zqc]
 simp only [ZeL,List.nil_append,List.map_append,List.map_take,List.map_drop]
theorem Zl9 (Q:List QT) (k:Nat):(ZeL Q k).map Prod.fst=less (Q.map Prod.fst) k:=by simp [ZeL,less,List.map_take,List.map_drop]
theorem ZfZ {Q:List QT} {k:Nat} {q:QT} (h:q∈ZeL Q k):q∈Q:=by
 rcases List.mem_append.1 h with h | h
 ·exact List.mem_of_mem_take h
 ·exact List.mem_of_mem_drop h
structure SwOk (S C:List Nat) (k:Nat):Prop where
 perm:C.Perm S
 rest:∀i,k≤i→C.getD i 0=S.getD i 0
 low:∀j,j<k→C.getD 0 0≤S.getD j 0
theorem Zi7 (o:Int) (o1:List Int) (o2:Int) (o3:List Int) (left:List (Int×List Int)) (out S:List Nat) (hS:∀s∈S,s<out.length∧out.getD s 0≤1000) (hn:S.length≤1000):∀(j i:Nat) (C:List Nat),i+j=S.length→SwOk S C i→
  Ret (ZaQ.l1 (j+1) ((S.length:Int),(i:Int),zs (Zev out (S.take i)),o,o1,o2,o3,left,zs C)) fun r=>∃C',r=(zs (Zev out S),o,o1,o2,o3,left,zs C')∧SwOk S C' S.length
 | 0,i,C,h,hC=>by
  have:i=S.length:=by omega
  subst this
  rw [ZaQ.l1.succ];simp only [ZaQ.l1.step]
  rw [Za8 (by omega),List.take_of_length_le (by omega)]
  exact .pure ⟨C,rfl,hC⟩
 | j+1,i,C,h,hC=>by
  have hi:i<S.length:=by omega
  have hcl:C.length=S.length:=hC.perm.length_eq
  have hg:S.getD i 0=S[i]:=Zam hi
  have hgc:C.getD i 0=S[i]:=(hC.rest i (Nat.le_refl _)).trans hg
  obtain ⟨h1,h2⟩:=hS S[i] (List.getElem_mem hi)
  have hb:=Zb7 out (S.take i) S[i] h1
  have hc:=List.count_le_length (a:=S[i]) (l:=S.take i)
  rw [List.length_take] at hc
  rw [ZaQ.l1.succ];simp only [ZaQ.l1.step,Zaj,ZaF,List.length_set]
  rw [Zbd hi,cond_true,Zaa _ (ZaM (by omega)),Int.toNat_natCast,Za9,hgc,Zaa _ (ZaM h1),Zaa _ (ZaM h1),Zaa _ (by simp;omega),Int.toNat_natCast,Za9,Za9,
   Zaf (n:=(((Zev out (S.take i)).getD S[i] 0:Nat):Int)+1) (by omega) (by omega),show (((Zev out (S.take i)).getD S[i] 0:Nat):Int)+1=(((Zev out (S.take i)).getD S[i] 0+1:Nat):Int) by omega,ZfK,
   ←Zji out (S.take i) S[i] h1,←List.take_succ_eq_append_getElem hi,Zaf (by omega) (by omega),show (i:Int)+1=((i+1:Nat):Int) by omega]
  by_cases c:S[i]<C.getD 0 0
  ·have hi0:i≠0:=by
    intro e;subst e
    rw [hgc] at c;omega
   rw [decide_eq_true (by omega),cond_true,Zaa _ (by simp;omega),Zaa _ (by simp;omega),Zaa _ (ZaM (by omega)),ZfK,ZfK]
   refine Zi7 o o1 o2 o3 left out S hS hn j (i+1) _ (by omega) ⟨?_,fun k hk=>?_,fun k hk=>?_⟩
   ·have hp:=@List.set_set_perm Nat C 0 i (by omega) (by omega)
    rw [Zam (by omega)] at hgc
    rw [Zam (by omega:0<C.length),←hgc]
    exact hp.trans hC.perm
   ·rw [←hC.rest k (by omega)]
    simp only [List.getD_eq_getElem?_getD,List.getElem?_set]
    rw [if_neg (by omega),if_neg (by omega)]
   ·have e0:((C.set 0 S[i]).set i (C.getD 0 0)).getD 0 0=S[i]:=by
     rw [Zam (by simp;omega),List.getElem_set,if_neg hi0,List.getElem_set,if_pos rfl]
    rw [e0]
    by_cases e:k=i
    ·subst e;rw [hg];exact Nat.le_refl _
    ·have:=hC.low k (by omega);omega
  ·rw [decide_eq_false (by omega),cond_false]
   refine Zi7 o o1 o2 o3 left out S hS hn j (i+1) C (by omega) ⟨hC.perm,fun k hk=>hC.rest k (by omega),fun k hk=>?_⟩
   by_cases e:k=i
   ·subst e;rw [hg];omega
   ·exact hC.low k (by omega)
theorem ZmC {U:List Nat} {tot:Nat} (hU:U.Nodup) (htot:tot≤400) (hUl:U.length≤400):∀(n:Nat) (out:List Nat) (Q:List QT) (T:Nat),Q.length≤n+1→Q.length≤400→(∀q∈Q,QOk q)→ZnQ out (Q.map Prod.fst) T U tot→
  ZaQ.l2 (n+1) (zs out,Q.map zQ)=some (zs (Zff n out (Q.map Prod.fst)))
 | 0,out,Q,T,hl,hl2,hQ,h=>by
  rw [ZaQ.l2.succ];simp only [ZaQ.l2.step,List.length_map]
  rw [decide_eq_false (by omega)];rfl
 | n+1,out,Q,T,hl,hl2,hQ,h=>by
  rw [ZaQ.l2.succ];simp only [ZaQ.l2.step,List.length_map]
  by_cases h1:1<Q.length
  ·have h1':1<(Q.map Prod.fst).length:=by rw [List.length_map];exact h1
   obtain ⟨hnx,hnl⟩:=h.next hU htot h1'
   obtain ⟨pp,_,_,hrl⟩:=ZtC _ h1'
   obtain ⟨k1,_⟩:=ZfW (Q.map Prod.fst) (by omega)
   have n1:=Zfz _ _ k1
   obtain ⟨k2,_⟩:=ZfW (less (Q.map Prod.fst) (lst (Q.map Prod.fst))) (by omega)
   obtain ⟨a1,a2,a3,a4⟩:=h.some htot hUl (Zp6 (Q.map Prod.fst)) (pp.mem_iff.2 (by simp))
   obtain ⟨b1,b2,b3,b4⟩:=h.some htot hUl (Zo5 (Q.map Prod.fst)) (pp.mem_iff.2 (by simp))
   have l1:=Zok Q (by omega) hQ (by omega)
   have f1:=Zl9 Q (lst (Q.map Prod.fst))
   have len1:(ZeL Q (lst (Q.map Prod.fst))).length+1=Q.length:=by
    have:=congrArg List.length f1;rw [List.length_map] at this;rw [this,n1,List.length_map]
   have l2:=Zok (ZeL Q (lst (Q.map Prod.fst))) (by omega) (fun q hq=>hQ q (ZfZ hq)) (by omega)
   have f2:=Zl9 (ZeL Q (lst (Q.map Prod.fst))) (lst ((ZeL Q (lst (Q.map Prod.fst))).map Prod.fst))
   rw [f1] at l2 f2
   have ga:(Q.getD (lst (Q.map Prod.fst)) QT.d).1=Zp6 (Q.map Prod.fst):=(ZhV Q _).symm
   have gb:((ZeL Q (lst (Q.map Prod.fst))).getD (lst (less (Q.map Prod.fst) (lst (Q.map Prod.fst)))) QT.d).1=Zo5 (Q.map Prod.fst):=by rw [←ZhV,f1];rfl
   have qa:QOk (Q.getD (lst (Q.map Prod.fst)) QT.d):=by rw [List.length_map] at k1;rw [Zam k1];exact hQ _ (List.getElem_mem _)
   have qb:QOk ((ZeL Q (lst (Q.map Prod.fst))).getD (lst (less (Q.map Prod.fst) (lst (Q.map Prod.fst)))) QT.d):=by
    have:lst (less (Q.map Prod.fst) (lst (Q.map Prod.fst)))<(ZeL Q (lst (Q.map Prod.fst))).length:=by rw [←f1,List.length_map] at k2;rw [←f1];exact k2
    rw [Zam this];exact hQ _ (ZfZ (List.getElem_mem _))
   have hrest:less (less (Q.map Prod.fst) (lst (Q.map Prod.fst))) (lst (less (Q.map Prod.fst) (lst (Q.map Prod.fst))))=Zjz (Q.map Prod.fst):=rfl
   rw [hrest] at f2
   rw [Zff,if_pos h1',decide_eq_true (by omega),cond_true,l1]
   simp only [Zab]
   rw [l2]
   simp only [Zab]
   generalize Q.getD (lst (Q.map Prod.fst)) QT.d=A at ga qa
   generalize (ZeL Q (lst (Q.map Prod.fst))).getD (lst (less (Q.map Prod.fst) (lst (Q.map Prod.fst)))) QT.d=B at gb qb
   have hRm:∀q∈ZeL (ZeL Q (lst (Q.map Prod.fst))) (lst (less (Q.map Prod.fst) (lst (Q.map Prod.fst)))),QOk q:=fun q hq=>hQ q (ZfZ (ZfZ hq))
   generalize ZeL (ZeL Q (lst (Q.map Prod.fst))) (lst (less (Q.map Prod.fst) (lst (Q.map Prod.fst))))=R at f2 hRm
   rw [←ga] at a1 a2 a3 a4 hnx hnl ⊢
   rw [←gb] at b1 b2 b3 b4 hnx hnl ⊢
   rw [←f2] at hnx hnl ⊢
   clear l1 l2 f1 f2 pp hrest k1 k2
   have hSp:(A.2++B.2).Perm (A.1.2.2++B.1.2.2):=qa.1.append qb.1
   have hla:=qa.1.length_eq
   have hlb:=qb.1.length_eq
   have hcat:([]++(zQ A).2)++(zQ B).2=zs (A.2++B.2):=by rw [List.nil_append,ZfL];rfl
   have la:(zQ A).2.length=A.2.length:=Zaj _
   have lb:(zQ B).2.length=B.2.length:=Zaj _
   have hw:w64 ((zQ A).1+(zQ B).1)=((A.1.1+B.1.1:Nat):Int):=by
    show w64 ((A.1.1:Int)+(B.1.1:Int))=_
    rw [Zaf (by omega) (by omega)];omega
   obtain ⟨r,hr,C,rfl,hC⟩:=Zi7 (zQ A).1 (zQ A).2 (zQ B).1 (zQ B).2 (R.map zQ) out (A.2++B.2) (fun s hs=>by
     rcases List.mem_append.1 (hSp.mem_iff.1 hs) with hs | hs
     ·exact a4 s hs
     ·exact b4 s hs) (by rw [List.length_append];omega) _ 0 (A.2++B.2) (Nat.zero_add _) ⟨.refl _,fun _ _=>rfl,fun j hj=>by omega⟩
   rw [List.take_zero,Ze4] at hr
   rw [Zad (by rw [la,List.length_nil];omega),Zad (by rw [List.length_append,la,lb,List.length_nil];omega),hcat,Zaj,ZaY,show (0:Int)=((0:Nat):Int) from rfl,hr]
   simp only [Zab]
   rw [Zad (by simp at hnl ⊢;omega),hw,ZrU out hSp]
   have hj:=hnx.all (ZhG A.1 B.1) (by simp)
   have hok:QOk (ZhG A.1 B.1,C):=by
    refine ⟨hC.perm.trans hSp,?_,?_⟩
    ·have hCl:=hC.perm.length_eq
     have hpos:0<C.length:=by rw [hCl,List.length_append];have:=qa.2.2;omega
     apply Nat.le_antisymm
     ·have hm:(ZhG A.1 B.1).2.1∈A.2++B.2:=hSp.mem_iff.2 hj.fin
      obtain ⟨j,hjl,hje⟩:=List.getElem_of_mem hm
      have:=hC.low j hjl
      rw [Zam hjl,hje] at this
      exact this
     ·refine hj.fle _ ((hC.perm.trans hSp).mem_iff.1 ?_)
      rw [Zam hpos];exact List.getElem_mem _
    ·rw [hC.perm.length_eq,List.length_append];have:=qa.2.2;omega
   have ih:=ZmC hU htot hUl n (Zev out (A.1.2.2++B.1.2.2)) (R++[(ZhG A.1 B.1,C)]) _ (by simp at hnl ⊢;omega) (by simp at hnl ⊢;omega) (fun q hq=>by
    rcases List.mem_append.1 hq with hq | hq
    ·exact hRm q hq
    ·have:q=(ZhG A.1 B.1,C):=by simpa using hq
     subst this;exact hok) (by rw [List.map_append];exact hnx)
   rw [List.map_append,List.map_append] at ih
   exact ih
  ·rw [Zff,if_neg (by rw [List.length_map];exact h1),decide_eq_false (by omega)];rfl
theorem Zi8 (cs:List Nat) (hn:cs.length≤1000) (out:List Int):∀(j i:Nat) (acc:List QT),i+j=cs.length→acc.length≤i→
  ZaQ.l0 (j+1) (zs cs,(cs.length:Int),(i:Int),out,acc.map zQ)=some (out,(acc++((List.range' i j).filter fun i=>decide (0<cs.getD i 0)).map fun i=>(((cs.getD i 0,i,[i]),[i]):QT)).map zQ)
 | 0,i,acc,h,ha=>by
  rw [ZaQ.l0.succ];simp only [ZaQ.l0.step,Zaj]
  rw [Za8 (by omega)];simp
 | j+1,i,acc,h,ha=>by
  have hi:i<cs.length:=by omega
  rw [ZaQ.l0.succ];simp only [ZaQ.l0.step,Zaj]
  rw [Zbd hi,cond_true,Zaa _ ZbC,Int.toNat_natCast,Za9,Zad (by simp;omega),Zaf (by omega) (by omega),show (i:Int)+1=((i+1:Nat):Int) by omega,List.range'_succ,List.filter_cons]
  by_cases c:0<cs.getD i 0
  ·rw [decide_eq_true (by omega),cond_true,if_pos (decide_eq_true c)]
   have:=Zi8 cs hn out j (i+1) (acc++[((cs.getD i 0,i,[i]),[i])]) (by omega) (by simp;omega)
   rw [List.map_append] at this
   rw [show acc.map zQ++[(((cs.getD i 0:Nat):Int),[(i:Int)])]=acc.map zQ++[(((cs.getD i 0,i,[i]),[i]):QT)].map zQ from rfl,this]
   simp
  ·rw [decide_eq_false (by omega),cond_false,if_neg (by simpa using c)]
   exact Zi8 cs hn out j (i+1) acc (by omega) (by omega)
def ZeM (cs:List Nat):List QT:=(ZbJ cs).map fun i=>((cs.getD i 0,i,[i]),[i])
theorem ZrE (cs:List Nat) (hn:cs.length≤400) (ht:cs.sum≤400):ZaQ (zs cs)=some (zs (ZcI cs)):=by
 have hl:=Zha cs
 have h0:=Zi8 cs (by omega) (zs (List.replicate cs.length 0)) cs.length 0 [] (by omega) (by simp)
 have hfst:(ZeM cs).map Prod.fst=Zf1 cs:=by unfold ZeM Zf1;rw [List.map_map];rfl
 have hlq:(ZeM cs).length=(ZbJ cs).length:=by simp [ZeM]
 have h2:=ZmC (Zh5 cs) ht (by omega) ((ZbJ cs).length-1) (List.replicate cs.length 0) (ZeM cs) 0 (by omega) (by omega) (fun q hq=>by
  obtain ⟨i,_,rfl⟩:=List.mem_map.1 hq
  exact ⟨.refl _,rfl,by simp⟩) (by rw [hfst];exact Zj7 cs)
 rw [hfst] at h2
 have el:((List.range' 0 cs.length).filter fun i=>decide (0<cs.getD i 0)).map (fun i=>(((cs.getD i 0,i,[i]),[i]):QT))=ZeM cs:=by
  rw [←List.range_eq_range'];rfl
 rw [el,List.nil_append,show ((0:Nat):Int)=0 from rfl,show ([]:List QT).map zQ=[] from rfl] at h0
 unfold ZaQ
 rw [Zaj,Zai (by omega) (by rw [Int.toNat_natCast];omega),Int.toNat_natCast,ZaY,show List.replicate cs.length (0:Int)=zs (List.replicate cs.length 0) from Zg8 _ 0,h0]
 simp only [Zab]
 rw [List.length_map,hlq]
 unfold ZcI
 by_cases h1:(ZbJ cs).length=1
 ·obtain ⟨k,hk⟩:=List.length_eq_one_iff.1 h1
  have hm:k<cs.length∧0<cs.getD k 0:=(Zcg cs k).1 (by rw [hk];simp)
  have eL:ZeM cs=[((cs.getD k 0,k,[k]),[k])]:=by unfold ZeM;rw [hk];rfl
  rw [if_pos h1,h1,eL,hk]
  rw [show (((1:Nat):Int)==1)=true from rfl,cond_true]
  simp only [List.map_cons,List.map_nil,zQ,zs,List.length_cons,List.length_nil,List.getD_cons_zero]
  rw [Zaa _ (by decide),Zaa _ (by decide),Zaa _ (by rw [List.length_map,List.length_replicate];exact ZaM hm.1),Int.toNat_natCast,show (1:Int)=((1:Nat):Int) from rfl]
  exact congrArg some (ZfK _ _ _)
 ·rw [if_neg h1,show (((ZbJ cs).length:Int)==1)=false by simp;omega,cond_false]
  rw [show ((((ZbJ cs).length:Int)-1).toNat+1)=(ZbJ cs).length-1+1 by omega,h2]
  rfl
end Ev
end
section
namespace Ev
open Go
def half (cs:List Nat):List Nat:=cs.map fun c=>(c+1)/2
def ZtI (ns:List Nat):Nat:=ns.foldl max 0
theorem Zmu (ns:List Nat):∀m,m≤ns.foldl max m∧(∀n∈ns,n≤ns.foldl max m)∧(∀d,m≤d→(∀n∈ns,n≤d)→ns.foldl max m≤d):=by
 induction ns with
 | nil=>intro m;exact ⟨Nat.le_refl _,by simp,fun d h _=>h⟩
 | cons n r ih=>
  intro m
  obtain ⟨h1,h2,h3⟩:=ih (max m n)
  refine ⟨by simp only [List.foldl_cons];omega,fun x hx=>?_,fun d hm hd=>?_⟩
  ·rcases List.mem_cons.1 hx with rfl | hx
   ·simp only [List.foldl_cons];omega
   ·exact h2 x hx
  ·exact h3 d (by have:=hd n (by simp);omega) fun x hx=>hd x (by simp [hx])
theorem ZtH {ns:List Nat} {d:Nat} (h:∀n∈ns,n≤d):ZtI ns≤d:=(Zmu ns 0).2.2 d (Nat.zero_le _) h
theorem ZtS {ns:List Nat} {n:Nat} (h:n∈ns):n≤ZtI ns:=(Zmu ns 0).2.1 n h
theorem ZbD (cs:List Nat):(half cs).length=cs.length:=by simp [half]
theorem ZiL (cs:List Nat) (i:Nat):(half cs).getD i 0=(cs.getD i 0+1)/2:=by
 simp only [half,List.getD_eq_getElem?_getD,List.getElem?_map]
 cases cs[i]?<;>rfl
theorem Zmn (cs:List Nat):ZbJ (half cs)=ZbJ cs:=Zfr cs (half cs) (ZbD cs) fun i=>by rw [ZiL];omega
theorem Zk7:∀cs:List Nat,2*(half cs).sum≤cs.sum+Zd4 cs
 | []=>Nat.le_refl _
 | c::r=>by
  have:=Zk7 r
  simp only [half,List.map_cons,List.sum_cons,Zd4] at this ⊢
  split<;>omega
theorem Zh4:∀cs:List Nat,Zd4 cs≤cs.sum
 | []=>Nat.le_refl _
 | c::r=>by
  have:=Zh4 r
  simp only [List.sum_cons,Zd4]
  split<;>omega
theorem ZnB (cs:List Nat):(half cs).sum≤cs.sum:=by
 have:=Zk7 cs
 have:=Zh4 cs
 omega
def Zlf (most:Nat):Nat→List Nat→List Nat
 | 0,cs=>ZcI cs
 | n+1,cs=>if ZtI (ZcI cs)≤most then ZcI cs else Zlf most n (half cs)
structure Zp8 (most:Nat) (cs:List Nat):Prop where
 some:ZbJ cs≠[]
 sum:cs.sum≤400
 len:cs.length≤300
 few:12≤most∨7≤most∧(ZbJ cs).length≤20
theorem Zp8.half {most:Nat} {cs:List Nat} (h:Zp8 most cs):Zp8 most (half cs):=
 ⟨by rw [Zmn];exact h.some,Nat.le_trans (ZnB cs) h.sum,by rw [ZbD];exact h.len,by rw [Zmn];exact h.few⟩
theorem Zp8.down {most:Nat} {cs:List Nat} (h:Zp8 most cs) (hm:¬ZtI (ZcI cs)≤most):(Ev.half cs).sum<cs.sum:=by
 obtain ⟨d,hd,ok,hf⟩:=Zk4 cs h.some h.sum
 have hmd:=ZtH ok.le
 rcases h.few with h12 | ⟨h7,h20⟩
 ·omega
 ·rcases hf with h1 | hf
  ·omega
  ·have:Zgf 10≤Zgf (d+2):=ZiX (by omega)
   have:Zgf 10=55:=by decide
   have:=Zk7 cs
   rw [ZeU] at this
   omega
theorem ZgR (most:Nat):∀(n:Nat) (cs:List Nat),Zp8 most cs→cs.sum≤n→LOk cs (Zlf most n cs) most
 | 0,cs,h,hn=>by
  exfalso
  apply h.some
  apply List.eq_nil_iff_forall_not_mem.2
  intro i hi
  obtain ⟨h1,h2⟩:=(Zcg cs i).1 hi
  have:cs.getD i 0≤cs.sum:=by
   rw [←Zic]
   obtain ⟨a,b,e⟩:=List.append_of_mem hi
   rw [e];simp;omega
  omega
 | n+1,cs,h,hn=>by
  rw [Zlf]
  by_cases c:ZtI (ZcI cs)≤most
  ·rw [if_pos c]
   obtain ⟨d,hd,ok,hf⟩:=Zk4 cs h.some h.sum
   exact ⟨ok.len,ok.pos,fun x hx=>Nat.le_trans (ZtS hx) c,ok.ok⟩
  ·rw [if_neg c]
   have hs:=h.down c
   have ih:=ZgR most n (half cs) h.half (by omega)
   exact ⟨ih.len.trans (ZbD cs),fun i=>by rw [←ih.pos i,ZiL];omega,ih.le,ih.ok⟩
theorem ZsC (a b:Nat):Zp4 (a:Int) (b:Int)=((max a b:Nat):Int):=by
 unfold Zp4
 by_cases h:(a:Int)<(b:Int)
 ·rw [if_pos h];omega
 ·rw [if_neg h];omega
theorem Zmc (most:Int) (now:List Int) (ns:List Nat) (hn:ns.length≤1000):∀(j i m:Nat),i+j=ns.length→
  Zaz.l1 (j+1) (most,(m:Int),(ns.length:Int),(i:Int),now,zs ns)=some (most,(((ns.drop i).foldl max m:Nat):Int),now,zs ns)
 | 0,i,m,h=>by
  rw [Zaz.l1.succ];simp only [Zaz.l1.step]
  rw [Za8 (by omega),List.drop_eq_nil_of_le (by omega)];rfl
 | j+1,i,m,h=>by
  have hi:i<ns.length:=by omega
  rw [Zaz.l1.succ];simp only [Zaz.l1.step,Zaj]
  rw [Zbd hi,cond_true,Zaa _ ZbC,Int.toNat_natCast,Za9,Zam hi,ZsC,Zaf (by omega) (by omega),show (i:Int)+1=((i+1:Nat):Int) by omega,
   Zmc most now ns hn j (i+1) _ (by omega),List.drop_eq_getElem_cons hi]
  rfl
def ZeB (cs:List Nat) (i:Nat):List Nat:=(half cs).take i++cs.drop i
theorem ZnC (cs:List Nat) (i:Nat) (hi:i<cs.length):(ZeB cs i).set i ((cs.getD i 0+1)/2)=ZeB cs (i+1):=by
 unfold ZeB
 rw [List.drop_eq_getElem_cons hi,List.set_append_right _ _ (by simp [ZbD];omega),List.take_succ_eq_append_getElem (by rw [ZbD];exact hi)]
 have e:i-(List.take i (half cs)).length=0:=by simp [ZbD];omega
 rw [e,List.set_cons_zero,List.append_assoc]
 congr 1
 have:=ZiL cs i
 rw [Zam (by rw [ZbD];exact hi)] at this
 rw [this];rfl
theorem ZpB (cs:List Nat) (i:Nat) (hi:i<cs.length):(ZeB cs i).getD i 0=cs.getD i 0:=by
 unfold ZeB
 rw [Zam (by simp [ZbD];omega),Zam hi,List.getElem_append_right (by simp [ZbD];omega)]
 simp [ZbD,Nat.min_eq_left (Nat.le_of_lt hi)]
theorem Zk8 (cs:List Nat) (i:Nat) (hi:i≤cs.length):(ZeB cs i).length=cs.length:=by
 simp [ZeB,ZbD];omega
theorem Zmb (most:Int) (cs:List Nat) (hn:cs.length≤1000) (hc:∀c∈cs,c≤100000):∀(j i:Nat),i+j=cs.length→
  Zaz.l2 (j+1) (most,(cs.length:Int),(i:Int),zs (ZeB cs i))=some (most,zs (half cs))
 | 0,i,h=>by
  rw [Zaz.l2.succ];simp only [Zaz.l2.step]
  have e:ZeB cs i=half cs:=by
   unfold ZeB
   rw [List.drop_eq_nil_of_le (by omega),List.append_nil,List.take_of_length_le (by rw [ZbD];omega)]
  rw [Za8 (by omega),e];rfl
 | j+1,i,h=>by
  have hi:i<cs.length:=by omega
  have hm:cs.getD i 0≤100000:=by rw [Zam hi];exact hc _ (List.getElem_mem hi)
  rw [Zaz.l2.succ];simp only [Zaz.l2.step,Zaj]
  rw [Zk8 cs i (by omega),Zbd hi,cond_true,Zaa _ ZbC,Zaa _ ZbC,Int.toNat_natCast,Za9,ZpB cs i hi,Zaf (n:=((cs.getD i 0:Nat):Int)+1) (by omega) (by omega),ZaD (by omega),
   show (((cs.getD i 0:Nat):Int)+1)/2=(((cs.getD i 0+1)/2:Nat):Int) by omega,Zaf (by omega) (by omega),Zaf (by omega) (by omega),show (i:Int)+1=((i+1:Nat):Int) by omega,ZfK,ZnC cs i hi]
  exact Zmb most cs hn hc j (i+1) (by omega)
theorem ZgI {cs:List Nat} {c:Nat} (h:c∈cs):c≤cs.sum:=by
 obtain ⟨a,b,rfl⟩:=List.append_of_mem h
 simp;omega
theorem Zma (most:Nat):∀(n k:Nat) (cs:List Nat),Zp8 most cs→cs.sum≤n→n≤k→Zaz.l3 k ((most:Int),zs cs)=some (.inr (zs (Zlf most n cs)))
 | 0,k,cs,h,hn,hk=>by
  exfalso
  obtain ⟨i,hi⟩:=List.exists_mem_of_ne_nil _ h.some
  have h2:=((Zcg cs i).1 hi)
  have:=ZgI (List.getElem_mem h2.1)
  rw [Zam h2.1] at h2
  omega
 | n+1,0,cs,h,hn,hk=>by omega
 | n+1,k+1,cs,h,hn,hk=>by
  have hl:=h.len
  have hs:=h.sum
  obtain ⟨d,hd,ok,hf⟩:=Zk4 cs h.some h.sum
  rw [Zaz.l3.succ];simp only [Zaz.l3.step]
  rw [ZrE cs (by omega) hs]
  simp only [Zab]
  have h1:=Zmc (most:Int) (zs cs) (ZcI cs) (by rw [ok.len];omega) (ZcI cs).length 0 0 (by omega)
  rw [show ((0:Nat):Int)=0 from rfl,List.drop_zero] at h1
  rw [Zaj,ZaY,h1]
  simp only [Zab]
  have em:(ZcI cs).foldl max 0=ZtI (ZcI cs):=rfl
  rw [em,Zlf]
  by_cases c:ZtI (ZcI cs)≤most
  ·rw [decide_eq_true (by omega),cond_true,if_pos c];rfl
  ·have h2:=Zmb (most:Int) cs (by omega) (fun c hc=>by have:=ZgI hc;omega) cs.length 0 (by omega)
   rw [show ((0:Nat):Int)=0 from rfl,show ZeB cs 0=cs by simp [ZeB]] at h2
   rw [decide_eq_false (by omega),cond_false,if_neg c,Zaj,ZaY,h2]
   simp only [Zab]
   have:=h.down c
   exact Zma most n k (half cs) h.half (by omega) (by omega)
theorem ZiC (most:Int) (cs:List Nat) (hn:cs.length≤1000) (hc:∀c∈cs,c≤100000):∀(j i m:Nat),i+j=cs.length→m≤i→
  Zaz.l0 (j+1) (most,(m:Int),zs cs,(cs.length:Int),(i:Int),zs (cs.take i))=some (.inl (most,((m+Zd4 (cs.drop i):Nat):Int),zs cs))
 | 0,i,m,h,hm=>by
  rw [Zaz.l0.succ];simp only [Zaz.l0.step]
  rw [Za8 (by omega),List.drop_eq_nil_of_le (by omega),List.take_of_length_le (by omega)];rfl
 | j+1,i,m,h,hm=>by
  have hi:i<cs.length:=by omega
  have hm2:cs.getD i 0≤100000:=by rw [Zam hi];exact hc _ (List.getElem_mem hi)
  have ht:zs (cs.take i)++[((cs.getD i 0:Nat):Int)]=zs (cs.take (i+1)):=by rw [Zgu cs i 0 hi,ZfL];rfl
  rw [Zaz.l0.succ];simp only [Zaz.l0.step,Zaj]
  rw [Zbd hi,cond_true,Zaa _ ZbC,Int.toNat_natCast,Za9,ZcM,show decide ((0:Int)≤((cs.getD i 0:Nat):Int)∧((cs.getD i 0:Nat):Int)≤100000)=true by simp only [decide_eq_true_eq];omega]
  simp only [Zab,Bool.not_true,cond_false]
  rw [Zad (by simp;omega),Zad (by simp;omega),ht,Zaf (n:=(i:Int)+1) (by omega) (by omega),show (i:Int)+1=((i+1:Nat):Int) by omega,Zaf (n:=(m:Int)+1) (by omega) (by omega),show (m:Int)+1=((m+1:Nat):Int) by omega,
   List.drop_eq_getElem_cons hi,Zd4]
  rw [Zam hi]
  by_cases c:0<cs[i]
  ·rw [decide_eq_true (by omega),cond_true,if_pos c,ZiC most cs hn hc j (i+1) (m+1) (by omega) (by omega),Nat.add_assoc]
  ·rw [decide_eq_false (by omega),cond_false,if_neg c,ZiC most cs hn hc j (i+1) m (by omega) (by omega),Nat.zero_add]
theorem Zsf {cs:List Nat} (h:ZbJ cs≠[]):1≤Zd4 cs:=by
 rw [ZeU];exact List.length_pos_iff.2 h
theorem ZiD (most:Nat) (cs:List Nat) (h:Zp8 most cs) (h15:most≤15) (hu:Zd4 cs≤2^(most-1)):Zaz (zs cs) (most:Int)=some (zs (Zlf most cs.sum cs)):=by
 have hl:=h.len
 have hs:=h.sum
 have hm:1≤most:=by rcases h.few with h | h<;>omega
 have hp:2^(most-1)≤2^14:=Nat.pow_le_pow_right (by omega) (by omega)
 have hup:=Zsf h.some
 have h0:=ZiC (most:Int) cs (by omega) (fun c hc=>by have:=ZgI hc;omega) cs.length 0 0 (by omega) (by omega)
 rw [show ((0:Nat):Int)=0 from rfl,List.drop_zero,List.take_zero,Nat.zero_add,show zs []=[] from rfl] at h0
 have hsh:=Zdd 1 (most-1) (by omega) (by omega)
 rw [Nat.one_mul,show ((1:Nat):Int)=1 from rfl] at hsh
 unfold Zaz
 rw [Zaj,decide_eq_false (by omega),cond_false,ZcM,show decide ((1:Int)≤(most:Int)∧(most:Int)≤15)=true by simp only [decide_eq_true_eq];omega]
 simp only [Zab,Bool.not_true,cond_false]
 rw [ZaY,h0]
 simp only [Zab]
 rw [Zaf (by omega) (by omega),show (most:Int)-1=((most-1:Nat):Int) by omega,Zap (by omega),hsh,ZcM,
  show decide ((1:Int)≤((Zd4 cs:Nat):Int)∧((Zd4 cs:Nat):Int)≤((2^(most-1):Nat):Int))=true by simp only [decide_eq_true_eq];omega]
 simp only [Zab,Bool.not_true,cond_false]
 rw [Zma most cs.sum 100000 cs h (Nat.le_refl _) (by omega)]
 rfl
end Ev
end
section
namespace Ev
open Go
def Zd5 (ns:List Nat) (ZaP:Nat):Nat→Nat
 | 0=>0
 | n+1=>if ZaP<n+1∧ns.getD n 0=0 then Zd5 ns ZaP n else n+1
def Zei (ns:List Nat) (ZaP:Nat):List Nat:=ns.take (Zd5 ns ZaP ns.length)
theorem Zfs (ns:List Nat) (ZaP:Nat):∀n,ZaP≤n→ZaP≤Zd5 ns ZaP n∧Zd5 ns ZaP n≤n∧∀i,Zd5 ns ZaP n≤i→i<n→ns.getD i 0=0
 | 0,h=>⟨by simpa [Zd5] using h,Nat.le_refl _,fun i _ h=>by omega⟩
 | n+1,h=>by
  rw [Zd5]
  by_cases c:ZaP<n+1∧ns.getD n 0=0
  ·rw [if_pos c]
   obtain ⟨h1,h2,h3⟩:=Zfs ns ZaP n (by omega)
   refine ⟨h1,by omega,fun i hi hn=>?_⟩
   by_cases e:i=n
   ·subst e;exact c.2
   ·exact h3 i hi (by omega)
  ·rw [if_neg c];exact ⟨h,Nat.le_refl _,fun i _ h=>by omega⟩
theorem Zgs (ns:List Nat) (ZaP:Nat) (h:ZaP≤ns.length):ZaP≤(Zei ns ZaP).length∧(Zei ns ZaP).length≤ns.length∧(∀n∈Zei ns ZaP,n∈ns)∧∃k,ns=Zei ns ZaP++List.replicate k 0:=by
 obtain ⟨h1,h2,h3⟩:=Zfs ns ZaP ns.length h
 unfold Zei
 refine ⟨by rw [List.length_take];omega,by rw [List.length_take];omega,fun n hn=>List.mem_of_mem_take hn,(ns.drop (Zd5 ns ZaP ns.length)).length,?_⟩
 rw [←List.eq_replicate_of_mem (a:=0) (l:=ns.drop (Zd5 ns ZaP ns.length)) (fun b hb=>?_),List.take_append_drop]
 obtain ⟨i,hi,rfl⟩:=List.getElem_of_mem hb
 rw [List.length_drop] at hi
 have:=h3 (Zd5 ns ZaP ns.length+i) (by omega) (by omega)
 rw [Zam (by omega)] at this
 rw [List.getElem_drop];exact this
theorem Zmi (a b:List Nat):Zbm (a++b)=Zbm a+Zbm b:=by
 induction a with
 | nil=>simp [Zbm]
 | cons n r ih=>simp only [List.cons_append,Zbm,ih];omega
theorem Zm6 (a b:List Nat):Zd4 (a++b)=Zd4 a+Zd4 b:=by
 induction a with
 | nil=>simp [Zd4]
 | cons n r ih=>simp only [List.cons_append,Zd4,ih];omega
theorem Zj8 (k:Nat):Zbm (List.replicate k 0)=0∧Zd4 (List.replicate k 0)=0:=by
 induction k with
 | zero=>exact ⟨rfl,rfl⟩
 | succ k ih=>rw [List.replicate_succ];simp [Zbm,Zd4,ih.1,ih.2]
theorem ZjO (ns:List Nat) (ZaP:Nat) (h:ZaP≤ns.length):Zbm (Zei ns ZaP)=Zbm ns∧Zd4 (Zei ns ZaP)=Zd4 ns∧(∀i,(Zei ns ZaP).getD i 0=ns.getD i 0)∧∀i,0<ns.getD i 0→i<(Zei ns ZaP).length:=by
 obtain ⟨_,_,_,k,hk⟩:=Zgs ns ZaP h
 have hg:∀i,(Zei ns ZaP).getD i 0=ns.getD i 0:=fun i=>by
  conv=>rhs;rw [hk]
  by_cases hi:i<(Zei ns ZaP).length
  ·rw [Zam hi,Zam (by simp;omega),List.getElem_append_left hi]
  ·have:(Zei ns ZaP).getD i 0=0:=by simp [List.getD,Nat.le_of_not_lt hi]
   rw [this]
   by_cases h2:i<(Zei ns ZaP++List.replicate k 0).length
   ·rw [Zam h2,List.getElem_append_right (by omega)];simp
   ·simp only [List.getD_eq_getElem?_getD,List.getElem?_eq_none (Nat.le_of_not_lt h2)];rfl
 refine ⟨?_,?_,hg,fun i hi=>?_⟩
 ·conv=>rhs;rw [hk]
  rw [Zmi,(Zj8 k).1,Nat.add_zero]
 ·conv=>rhs;rw [hk]
  rw [Zm6,(Zj8 k).2,Nat.add_zero]
 ·rcases Nat.lt_or_ge i (Zei ns ZaP).length with h1 | h1
  ·exact h1
  ·rw [←hg i,show (Zei ns ZaP).getD i 0=0 by simp [List.getD,h1]] at hi;omega
theorem ZjM (ns:List Nat) (hn:ns.length≤1000) (ZaP:Nat):∀(k n:Nat),ZaP≤n→n≤ns.length→n-ZaP≤k→Za6.l0 (k+1) (zs ns,(ZaP:Int),(n:Int))=some (zs ns,(Zd5 ns ZaP n:Int))
 | k,0,h1,h2,h3=>by
  rw [Za6.l0.succ];simp only [Za6.l0.step]
  rw [decide_eq_false (by omega)];rfl
 | 0,n+1,h1,h2,h3=>by
  rw [Za6.l0.succ];simp only [Za6.l0.step]
  rw [decide_eq_false (by omega),Zd5,if_neg (by omega)];rfl
 | k+1,n+1,h1,h2,h3=>by
  rw [Za6.l0.succ];simp only [Za6.l0.step,Zaj]
  rw [Zaf (by omega) (by omega),show ((n+1:Nat):Int)-1=(n:Int) by omega,Zaa _ (ZaM (by omega)),Int.toNat_natCast,Za9,Zd5]
  by_cases c:ZaP<n+1
  ·rw [decide_eq_true (by omega),cond_true]
   simp only [Zab]
   by_cases z:ns.getD n 0=0
   ·rw [if_pos ⟨c,z⟩,z,show (((0:Nat):Int)==0)=true from rfl,cond_true]
    exact ZjM ns hn ZaP k n (by omega) (by omega) (by omega)
   ·rw [if_neg (fun e=>z e.2),show (((ns.getD n 0:Nat):Int)==0)=false by simp only [beq_eq_false_iff_ne,ne_eq];omega,cond_false]
  ·rw [decide_eq_false (by omega),if_neg (fun e=>c e.1)];rfl
theorem ZjN (ns:List Nat) (hn:ns.length≤1000) (ZaP:Nat) (h:ZaP≤ns.length):Za6 (zs ns) (ZaP:Int)=some (zs (Zei ns ZaP)):=by
 have h1:=ZjM ns hn ZaP (ns.length-ZaP) ns.length h (Nat.le_refl _) (Nat.le_refl _)
 obtain ⟨_,h2,_⟩:=Zfs ns ZaP ns.length h
 unfold Za6
 rw [Zaj,show ((ns.length:Int)-(ZaP:Int)).toNat=ns.length-ZaP by omega,h1]
 simp only [Zab,Zaj]
 rw [Zaa _ (by simp;omega),Int.toNat_natCast]
 simp only [Zei,zs,List.map_take]
end Ev
end
section
namespace Ev
open Go
def Zpu:Tk→List Nat
 | .lit c=>[c]
 | .far l _=>[257+ZbU ZaG l]
def Zr0:Tk→List Nat
 | .lit _=>[]
 | .far _ k=>[ZbU ZaU k]
def ZfY (ts:List Tk):List Nat:=ts.flatMap Zpu
def ZdJ (ts:List Tk):List Nat:=ts.flatMap Zr0
def ZjH:List Nat:=(List.replicate 286 0).set 256 1
def Zgi (ts:List Tk):List Nat:=Zev ZjH (ZfY ts)
def Zet (ts:List Tk):List Nat:=Zev (List.replicate 30 0) (ZdJ ts)
def Zko (ts:List Tk):List Nat:=if ZdJ ts=[] then (Zet ts).set 0 1 else Zet ts
theorem Zcx:ZjH.length=286:=by kernel_rfl
theorem ZrP:ZjH.sum=1:=by kernel_rfl
theorem ZoK (i:Nat):ZjH.getD i 0≤1:=by
 by_cases h:i<286
 ·rw [Zam (by rw [Zcx];exact h)]
  unfold ZjH
  rw [List.getElem_set]
  split
  ·omega
  ·rw [List.getElem_replicate];omega
 ·simp [List.getD,Zcx,Nat.le_of_not_lt h]
theorem Zpt (ts:List Tk) (i:Nat) (hi:i<ts.length):ZfY (ts.take (i+1))=ZfY (ts.take i)++Zpu ts[i]:=by
 unfold ZfY;rw [List.take_succ_eq_append_getElem hi,List.flatMap_append];simp only [List.flatMap_cons,List.flatMap_nil,List.append_nil]
theorem ZpW (ts:List Tk) (i:Nat) (hi:i<ts.length):ZdJ (ts.take (i+1))=ZdJ (ts.take i)++Zr0 ts[i]:=by
 unfold ZdJ;rw [List.take_succ_eq_append_getElem hi,List.flatMap_append];simp only [List.flatMap_cons,List.flatMap_nil,List.append_nil]
theorem ZdO:∀ts:List Tk,(ZfY ts).length=ts.length
 | []=>rfl
 | .lit c::r=>by have:=ZdO r;simp only [ZfY,List.flatMap_cons,List.length_append,List.length_cons] at this ⊢;simp only [Zpu,List.length_cons,List.length_nil];omega
 | .far l k::r=>by have:=ZdO r;simp only [ZfY,List.flatMap_cons,List.length_append,List.length_cons] at this ⊢;simp only [Zpu,List.length_cons,List.length_nil];omega
theorem ZdV:∀ts:List Tk,(ZdJ ts).length≤ts.length
 | []=>Nat.le_refl _
 | .lit c::r=>by have:=ZdV r;simp only [ZdJ,List.flatMap_cons,List.length_append,List.length_cons] at this ⊢;simp only [Zr0,List.length_nil];omega
 | .far l k::r=>by have:=ZdV r;simp only [ZdJ,List.flatMap_cons,List.length_append,List.length_cons] at this ⊢;simp only [Zr0,List.length_cons,List.length_nil];omega
theorem ZtQ (t:Tk) (h:t.Ok):∀s∈Zpu t,s<286:=by
 intro s hs
 cases t with
 | lit c=>
  have:s=c:=by simpa [Zpu] using hs
  subst this;have:s<256:=h;omega
 | far l k=>
  have:s=257+ZbU ZaG l:=by simpa [Zpu] using hs
  have:=(Zek l h.1 h.2.1).2.2.1;omega
theorem Zua (t:Tk) (h:t.Ok):∀s∈Zr0 t,s<30:=by
 intro s hs
 cases t with
 | lit c=>simp [Zr0] at hs
 | far l k=>
  have:s=ZbU ZaU k:=by simpa [Zr0] using hs
  have:=(ZeV k h.2.2.1 h.2.2.2).2.2.1;omega
theorem Zh1 (out S:List Nat) (s:Nat) (h:s<out.length) (hb:∀i,out.getD i 0≤1) (hS:S.length≤1000) (h2:out.length≤1000) :
  (zs (Zev out S)).set s (w64 ((zs (Zev out S)).getD s 0+1))=zs (Zev out (S++[s])):=by
 have h1:=Zb7 out S s h
 have h3:=List.count_le_length (a:=s) (l:=S)
 have:=hb s
 rw [Za9,Zaf (by omega) (by omega),show (((Zev out S).getD s 0:Nat):Int)+1=(((Zev out S).getD s 0+1:Nat):Int) by omega,ZfK,←Zji out S s h]
theorem Zta (n i:Nat):(List.replicate n 0).getD i 0≤1:=by rw [Zcj];omega
theorem ZlT (ts:List Tk) (hts:∀t∈ts,t.Ok) (hn:ts.length≤1000):∀(j i:Nat),i+j=ts.length→
  ZaA.l0 (j+1) (decide (ZdJ (ts.take i)=[]),(ts.length:Int),(i:Int),ts.map Tk.z,zs (Zev ZjH (ZfY (ts.take i))),zs (Zev (List.replicate 30 0) (ZdJ (ts.take i)))) =
   some (decide (ZdJ ts=[]),ts.map Tk.z,zs (Zgi ts),zs (Zet ts))
 | 0,i,h=>by
  rw [ZaA.l0.succ];simp only [ZaA.l0.step]
  rw [Za8 (by omega),List.take_of_length_le (by omega)];rfl
 | j+1,i,h=>by
  have hi:i<ts.length:=by omega
  have hok:=hts ts[i] (List.getElem_mem hi)
  have ih:=ZlT ts hts hn j (i+1) (by omega)
  have hl1:=ZdO (ts.take i)
  have hl2:=ZdV (ts.take i)
  rw [List.length_take] at hl1 hl2
  have hA:=Zcx
  rw [←ih,Zpt ts i hi,ZpW ts i hi]
  rw [ZaA.l0.succ];simp only [ZaA.l0.step]
  rw [Zbd hi,cond_true,Zaa _ (by rw [List.length_map];exact ZaM hi),Int.toNat_natCast,ZnS ts i hi,Zaf (n:=(i:Int)+1) (by omega) (by omega),show (i:Int)+1=((i+1:Nat):Int) by omega]
  cases hk:ts[i] with
  | lit c=>
   rw [hk] at hok
   have hc:c<256:=hok
   have b1:=Zh1 ZjH (ZfY (ts.take i)) c (by omega) ZoK (by omega) (by omega)
   rw [show (Tk.lit c).z=((c:Int),0,0) from rfl]
   dsimp only
   rw [show ((0:Int)==0)=true from rfl,cond_true,Zaa _ (ZaM (by rw [Zaj,ZaF];omega)),Zaa _ (ZaM (by rw [Zaj,ZaF];omega)),Int.toNat_natCast,b1]
   simp only [Zpu,Zr0,List.append_nil]
  | far n k=>
   rw [hk] at hok
   obtain ⟨o1,o2,o3,o4⟩:=hok
   obtain ⟨a1,a2,a3,a4,a5⟩:=Zek n o1 o2
   obtain ⟨b1,b2,b3,b4,b5⟩:=ZeV k o3 o4
   have e1:=Zh1 ZjH (ZfY (ts.take i)) (257+ZbU ZaG n) (by omega) ZoK (by omega) (by omega)
   have e2:=Zh1 (List.replicate 30 0) (ZdJ (ts.take i)) (ZbU ZaU k) (by simp;omega) (Zta 30) (by omega) (by simp)
   have eL:=ZgL
   have eB:=Zg6
   generalize zs ZaG=A at eL a1
   generalize zs Zcs=A' at eL a1
   generalize zs ZaU=B at eB b1
   generalize zs ZcR=B' at eB b1
   rw [show (Tk.far n k).z=(0,(n:Int),(k:Int)) from rfl]
   dsimp only
   rw [show ((n:Int)==0)=false by simp;omega,cond_false,eL,eB]
   simp only [Zab]
   rw [a1]
   simp only [Zab]
   rw [Zaf (n:=257+((ZbU ZaG n:Nat):Int)) (by omega) (by omega),show (257:Int)+((ZbU ZaG n:Nat):Int)=((257+ZbU ZaG n:Nat):Int) by omega,
    Zaa _ (ZaM (by rw [Zaj,ZaF];omega)),Zaa _ (ZaM (by rw [Zaj,ZaF];omega)),b1]
   simp only [Zab]
   rw [Zaa _ (ZaM (by rw [Zaj,ZaF];simp;omega)),Zaa _ (ZaM (by rw [Zaj,ZaF];simp;omega)),Int.toNat_natCast,Int.toNat_natCast,e1,e2]
   rw [show Zpu (Tk.far n k)=[257+ZbU ZaG n] from rfl,show Zr0 (Tk.far n k)=[ZbU ZaU k] from rfl,decide_eq_false (show ¬ZdJ (ts.take i)++[ZbU ZaU k]=[] by simp)]
theorem Zm9:∀(l:List Nat) (i x:Nat),i<l.length→l.getD i 0+(l.set i x).sum=l.sum+x
 | [],i,x,h=>by simp at h
 | a::r,0,x,h=>by simp;omega
 | a::r,i+1,x,h=>by
  have:=Zm9 r i x (by simpa using h)
  simp only [List.set_cons_succ,List.sum_cons,List.getD_cons_succ];omega
theorem Zn4 (out:List Nat) (S:List Nat) (h:∀s∈S,s<out.length):∀k,k≤S.length→(Zev out (S.take k)).sum=out.sum+k
 | 0,_=>by rw [List.take_zero,Ze4];rfl
 | k+1,hk=>by
  have hs:=h S[k] (List.getElem_mem hk)
  have ih:=Zn4 out S h k (by omega)
  rw [List.take_succ_eq_append_getElem hk,Zji out _ _ hs]
  have:=Zm9 (Zev out (S.take k)) S[k] ((Zev out (S.take k)).getD S[k] 0+1) (by rw [ZaF];exact hs)
  omega
theorem Zid (out:List Nat) (S:List Nat) (h:∀s∈S,s<out.length):(Zev out S).sum=out.sum+S.length:=by
 have:=Zn4 out S h S.length (Nat.le_refl _)
 rwa [List.take_of_length_le (Nat.le_refl _)] at this
theorem Zoi (ts:List Tk) (hts:∀t∈ts,t.Ok):∀s∈ZfY ts,s<286:=by
 intro s hs
 obtain ⟨t,ht,h⟩:=List.mem_flatMap.1 hs
 exact ZtQ t (hts t ht) s h
theorem Zlm (ts:List Tk) (hts:∀t∈ts,t.Ok):∀s∈ZdJ ts,s<30:=by
 intro s hs
 obtain ⟨t,ht,h⟩:=List.mem_flatMap.1 hs
 exact Zua t (hts t ht) s h
theorem ZrO (ts:List Tk) (hts:∀t∈ts,t.Ok) (hn:ts.length≤300):Zp8 15 (Zgi ts)∧(Zgi ts).length=286∧(∀s∈ZfY ts,0<(Zgi ts).getD s 0)∧0<(Zgi ts).getD 256 0:=by
 have hl:(Zgi ts).length=286:=(ZaF _ _).trans Zcx
 have hs:(Zgi ts).sum=1+ts.length:=by
  unfold Zgi
  rw [Zid _ _ (fun s hs=>by rw [Zcx];exact Zoi ts hts s hs),ZrP,ZdO]
 have h256:0<(Zgi ts).getD 256 0:=by
  unfold Zgi
  rw [Zb7 _ _ _ (by rw [Zcx];omega),show ZjH.getD 256 0=1 by kernel_rfl];omega
 refine ⟨⟨fun h=>?_,by omega,by omega,.inl (by omega)⟩,hl,fun s hs=>?_,h256⟩
 ·have:256∈ZbJ (Zgi ts):=(Zcg _ _).2 ⟨by omega,h256⟩
  rw [h] at this;simp at this
 ·unfold Zgi
  rw [Zb7 _ _ _ (by rw [Zcx];exact Zoi ts hts s hs)]
  have:=List.count_pos_iff.2 hs
  omega
theorem ZrN (ts:List Tk) (hts:∀t∈ts,t.Ok) (hn:ts.length≤300):Zp8 15 (Zko ts)∧(Zko ts).length=30∧(∀s∈ZdJ ts,0<(Zko ts).getD s 0):=by
 have hl0:(Zet ts).length=30:=(ZaF _ _).trans (by simp)
 have hs0:(Zet ts).sum=(ZdJ ts).length:=by
  unfold Zet
  rw [Zid _ _ (fun s hs=>by simp;exact Zlm ts hts s hs)];simp
 have hbl:=ZdV ts
 unfold Zko
 by_cases h:ZdJ ts=[]
 ·rw [if_pos h]
  have hz:∀i,(Zet ts).getD i 0=0:=fun i=>by unfold Zet;rw [h,Ze4,Zcj]
  have hsm:((Zet ts).set 0 1).sum=1:=by
   have:=Zm9 (Zet ts) 0 1 (by omega)
   rw [hz 0,hs0,h] at this
   simpa using this
  have hg:0<((Zet ts).set 0 1).getD 0 0:=by rw [Zam (by simp;omega)];simp
  refine ⟨⟨fun e=>?_,by omega,by simp;omega,.inl (by omega)⟩,by simp;omega,fun s hs=>by rw [h] at hs;simp at hs⟩
  have:0∈ZbJ ((Zet ts).set 0 1):=(Zcg _ _).2 ⟨by simp;omega,hg⟩
  rw [e] at this;simp at this
 ·rw [if_neg h]
  have hp:∀s∈ZdJ ts,0<(Zet ts).getD s 0:=fun s hs=>by
   unfold Zet
   rw [Zb7 _ _ _ (by simp;exact Zlm ts hts s hs)]
   have:=List.count_pos_iff.2 hs
   omega
  refine ⟨⟨fun e=>?_,by omega,by omega,.inl (by omega)⟩,hl0,hp⟩
  obtain ⟨s,hs⟩:=List.exists_mem_of_ne_nil _ h
  have:s∈ZbJ (Zet ts):=(Zcg _ _).2 ⟨by have:=Zlm ts hts s hs;omega,hp s hs⟩
  rw [e] at this;simp at this
end Ev
end
section
namespace Ev
open Go
def Zbt:List Nat:=[16,17,18,0,8,7,9,6,10,5,11,4,12,3,13,2,14,1,15]
def ZdN (ts:List Tk):List Nat:=Zei (Zlf 15 (Zgi ts).sum (Zgi ts)) 257
def Zd7 (ts:List Tk):List Nat:=Zei (Zlf 15 (Zko ts).sum (Zko ts)) 1
def Zgn (ts:List Tk):List Nat:=ZdN ts++Zd7 ts
def Znl (ts:List Tk):List Nat:=Zev (List.replicate 19 0) (Zgn ts)
def Zho (ts:List Tk):List Nat:=Zlf 7 (Znl ts).sum (Znl ts)
structure Ze9 (ts:List Tk):Prop where
 l1:257≤(ZdN ts).length
 l2:(ZdN ts).length≤286
 d1:1≤(Zd7 ts).length
 d2:(Zd7 ts).length≤30
 l15:∀n∈ZdN ts,n≤15
 d15:∀n∈Zd7 ts,n≤15
 lk:Zbm (ZdN ts)=32768∨Zd4 (ZdN ts)=1∧Zbm (ZdN ts)=16384
 dk:Zbm (Zd7 ts)=32768∨Zd4 (Zd7 ts)=1∧Zbm (Zd7 ts)=16384
 lpos:∀s∈ZfY ts,0<(ZdN ts).getD s 0∧s<(ZdN ts).length
 dpos:∀s∈ZdJ ts,0<(Zd7 ts).getD s 0∧s<(Zd7 ts).length
 epos:0<(ZdN ts).getD 256 0
 c:Zp8 7 (Znl ts)
 m:LOk (Znl ts) (Zho ts) 7
 ml:(Zho ts).length=19
 mpos:∀s∈Zgn ts,0<(Zho ts).getD s 0∧s<19
theorem Ztc (ts:List Tk) (hts:∀t∈ts,t.Ok) (hn:ts.length≤300):Ze9 ts:=by
 obtain ⟨a1,a2,a3,a4⟩:=ZrO ts hts hn
 obtain ⟨b1,b2,b3⟩:=ZrN ts hts hn
 have la:=ZgR 15 _ _ a1 (Nat.le_refl _)
 have lb:=ZgR 15 _ _ b1 (Nat.le_refl _)
 have lal:=la.len.trans a2
 have lbl:=lb.len.trans b2
 obtain ⟨t1,t2,t3,_⟩:=Zgs (Zlf 15 (Zgi ts).sum (Zgi ts)) 257 (by omega)
 obtain ⟨u1,u2,u3,_⟩:=Zgs (Zlf 15 (Zko ts).sum (Zko ts)) 1 (by omega)
 obtain ⟨v1,v2,v3,v4⟩:=ZjO (Zlf 15 (Zgi ts).sum (Zgi ts)) 257 (by omega)
 obtain ⟨w1,w2,w3,w4⟩:=ZjO (Zlf 15 (Zko ts).sum (Zko ts)) 1 (by omega)
 have h15:∀s∈Zgn ts,s<19:=fun s hs=>by
  rcases List.mem_append.1 hs with hs | hs
  ·have:=la.le s (t3 s hs);omega
  ·have:=lb.le s (u3 s hs);omega
 have hlen:(Zgn ts).length≤316∧258≤(Zgn ts).length:=by
  have e:(Zgn ts).length=(ZdN ts).length+(Zd7 ts).length:=List.length_append
  unfold ZdN Zd7 at e
  omega
 have hcs:(Znl ts).sum=(Zgn ts).length:=by
  unfold Znl
  rw [Zid _ _ (fun s hs=>by rw [List.length_replicate];exact h15 s hs),show (List.replicate 19 0).sum=0 from rfl,Nat.zero_add]
 have hcl:(Znl ts).length=19:=(ZaF _ _).trans (by rw [List.length_replicate])
 have hcp:∀s∈Zgn ts,0<(Znl ts).getD s 0:=fun s hs=>by
  unfold Znl
  rw [Zb7 _ _ _ (by rw [List.length_replicate];exact h15 s hs)]
  have:=List.count_pos_iff.2 hs
  omega
 have hc:Zp8 7 (Znl ts):=by
  refine ⟨fun e=>?_,by omega,by omega,.inr ⟨Nat.le_refl _,by have:=Zha (Znl ts);omega⟩⟩
  have hne:Zgn ts≠[]:=fun e=>by rw [e] at hlen;simp at hlen
  obtain ⟨s,hs⟩:=List.exists_mem_of_ne_nil _ hne
  have:s∈ZbJ (Znl ts):=(Zcg _ _).2 ⟨by rw [hcl];exact h15 s hs,hcp s hs⟩
  rw [e] at this;simp at this
 have lm:=ZgR 7 _ _ hc (Nat.le_refl _)
 exact ⟨t1,by unfold ZdN;omega,u1,by unfold Zd7;omega,fun n hn=>la.le n (t3 n hn),fun n hn=>lb.le n (u3 n hn),by unfold ZdN;rw [v1,v2];exact la.ok,by unfold Zd7;rw [w1,w2];exact lb.ok,
  fun s hs=>⟨by unfold ZdN;rw [v3];exact (la.pos s).1 (a3 s hs),v4 s ((la.pos s).1 (a3 s hs))⟩,fun s hs=>⟨by unfold Zd7;rw [w3];exact (lb.pos s).1 (b3 s hs),w4 s ((lb.pos s).1 (b3 s hs))⟩,
  by unfold ZdN;rw [v3];exact (la.pos 256).1 a4,hc,lm,lm.len.trans hcl,fun s hs=>⟨(lm.pos s).1 (hcp s hs),h15 s hs⟩⟩
theorem Ze9.kl {ts:List Tk} (h:Ze9 ts):Zbm (ZdN ts)≤32768:=by rcases h.lk with h | h<;>omega
theorem Ze9.kd {ts:List Tk} (h:Ze9 ts):Zbm (Zd7 ts)≤32768:=by rcases h.dk with h | h<;>omega
theorem Ze9.km {ts:List Tk} (h:Ze9 ts):Zbm (Zho ts)≤32768:=by rcases h.m.ok with h | h<;>omega
theorem Ze9.m15 {ts:List Tk} (h:Ze9 ts):∀n∈Zho ts,n≤15:=fun n hn=>by have:=h.m.le n hn;omega
theorem Ze9.m7 {ts:List Tk} (h:Ze9 ts) (i:Nat):(Zho ts).getD i 0≤7:=by
 by_cases hi:i<(Zho ts).length
 ·rw [Zam hi];exact h.m.le _ (List.getElem_mem hi)
 ·simp [List.getD,Nat.le_of_not_lt hi]
theorem Ze9.tin {ts:List Tk} (h:Ze9 ts):∀t∈ts,t.In (ZdN ts) (Zd7 ts):=fun t ht=>by
 cases t with
 | lit c=>exact (h.lpos c (List.mem_flatMap.2 ⟨_,ht,by simp [Zpu]⟩)).2
 | far l k=>exact ⟨(h.lpos _ (List.mem_flatMap.2 ⟨_,ht,by simp [Zpu]⟩)).2,(h.dpos _ (List.mem_flatMap.2 ⟨_,ht,by simp [Zr0]⟩)).2⟩
def Ze8 (M:List Nat) (is:List Nat):List Bool:=is.flatMap fun k=>Zcc (M.getD k 0) 3
def ZmS (M:List Nat) (S:List Nat):List Bool:=S.flatMap (Zjt M)
theorem Zhr (M:List Nat):∀is,(Ze8 M is).length=3*is.length
 | []=>rfl
 | k::r=>by have:=Zhr M r;simp only [Ze8,List.flatMap_cons,List.length_append,List.length_cons,Zah] at this ⊢;omega
theorem Zjq (M:List Nat) (h15:∀n∈M,n≤15):∀S:List Nat,(∀s∈S,s<M.length)→(ZmS M S).length≤15*S.length
 | [],_=>by simp [ZmS]
 | s::r,h=>by
  have:=Zjq M h15 r (fun x hx=>h x (by simp [hx]))
  have hs:=ZcH M s (h s (by simp)) h15
  simp only [ZmS,List.flatMap_cons,List.length_append,List.length_cons] at this ⊢;omega
theorem ZlS (lit dist:List Int) (list:List (Int×Int×Int)) (S:List Nat) (hn:S.length≤1000) (hS:∀s∈S,s<19):∀(j i:Nat),i+j=S.length→
  ZaA.l1 (j+1) (lit,dist,(S.length:Int),(i:Int),list,zs S,zs (Zev (List.replicate 19 0) (S.take i)))=some (lit,dist,list,zs S,zs (Zev (List.replicate 19 0) S))
 | 0,i,h=>by
  rw [ZaA.l1.succ];simp only [ZaA.l1.step]
  rw [Za8 (by omega),List.take_of_length_le (by omega)];rfl
 | j+1,i,h=>by
  have hi:i<S.length:=by omega
  have hs:=hS S[i] (List.getElem_mem hi)
  have b1:=Zh1 (List.replicate 19 0) (S.take i) S[i] (by rw [List.length_replicate];exact hs) (Zta 19) (by rw [List.length_take];omega) (by rw [List.length_replicate];omega)
  rw [ZaA.l1.succ];simp only [ZaA.l1.step,Zaj,ZaF,List.length_replicate]
  rw [Zbd hi,cond_true,Zaa _ ZbC,Int.toNat_natCast,Za9,Zam hi,Zaa _ (by simp;omega),Zaa _ (by simp;omega),Int.toNat_natCast,b1,←List.take_succ_eq_append_getElem hi,Zaf (by omega) (by omega),show (i:Int)+1=((i+1:Nat):Int) by omega]
  exact ZlS lit dist list S hn hS j (i+1) (by omega)
theorem ZqH (i:Nat) (h:i<19):Zbt.getD i 0<19:=by
 have:(List.range 19).all (fun k=>decide (Zbt.getD k 0<19))=true:=by decide
 simpa using List.all_eq_true.1 this i (List.mem_range.2 h)
theorem ZlR (lit dist:List Int) (list:List (Int×Int×Int)) (all:List Int) (M:List Nat) (hM:M.length=19) (h7:∀i,M.getD i 0≤7):∀(j i:Nat) (l:List Bool),i+j=19→l.length+3*j≤10000→
  ZaA.l2 (j+1) (lit,dist,zs Zbt,19,(i:Int),list,all,zs M,(l.length:Int),ZdF l)=some (lit,dist,list,all,zs M,(((l++Ze8 M (Zbt.drop i)).length:Nat):Int),ZdF (l++Ze8 M (Zbt.drop i)))
 | 0,i,l,h,hl=>by
  have:i=19:=by omega
  subst this
  rw [ZaA.l2.succ];simp only [ZaA.l2.step]
  rw [decide_eq_false (by omega),show Zbt.drop 19=[] from rfl];simp [Ze8]
 | j+1,i,l,h,hl=>by
  have hi:i<Zbt.length:=by show i<19;omega
  have ho:=ZqH i (by omega)
  have e:Ze8 M (Zbt.drop i)=Zcc (M.getD (Zbt.getD i 0) 0) 3++Ze8 M (Zbt.drop (i+1)):=by
   rw [List.drop_eq_getElem_cons hi,Zam hi];rfl
  have h8:=h7 (Zbt.getD i 0)
  have hp:=Zc3 (M.getD (Zbt.getD i 0) 0) 3 (by omega) (by omega) l (by omega)
  rw [show ((3:Nat):Int)=3 from rfl] at hp
  rw [ZaA.l2.succ];simp only [ZaA.l2.step,Zaj]
  rw [decide_eq_true (by omega),cond_true,Zaa _ (ZaM hi),Int.toNat_natCast,Za9,hM,Zaa _ (ZaM ho),Int.toNat_natCast,Za9,hp]
  simp only [Zab]
  rw [Zaf (by omega) (by omega),show (i:Int)+1=((i+1:Nat):Int) by omega,e,←List.append_assoc]
  exact ZlR lit dist list all M hM h7 j (i+1) _ (by omega) (by rw [List.length_append,Zah];omega)
theorem ZlQ (lit dist:List Int) (list:List (Int×Int×Int)) (M S:List Nat) (hk:Zbm M≤32768) (h15:∀n∈M,n≤15) (hS:∀s∈S,s<M.length) (hn:S.length≤1000):∀(j i:Nat) (l:List Bool),i+j=S.length→l.length+15*j≤100000→
  ZaA.l3 (j+1) (lit,dist,(S.length:Int),(i:Int),list,zs M,(l.length:Int),zs (Zdo M),zs S,ZdF l)=some (lit,dist,list,(((l++ZmS M (S.drop i)).length:Nat):Int),ZdF (l++ZmS M (S.drop i)))
 | 0,i,l,h,hl=>by
  rw [ZaA.l3.succ];simp only [ZaA.l3.step]
  rw [Za8 (by omega),List.drop_eq_nil_of_le (by omega)];simp [ZmS]
 | j+1,i,l,h,hl=>by
  have hi:i<S.length:=by omega
  have hs:=hS S[i] (List.getElem_mem hi)
  have e:ZmS M (S.drop i)=Zjt M S[i]++ZmS M (S.drop (i+1)):=by rw [List.drop_eq_getElem_cons hi];rfl
  have hb:=ZcH M S[i] hs h15
  have hp:=ZfM M hk h15 S[i] hs l (by omega)
  rw [ZaA.l3.succ];simp only [ZaA.l3.step,Zaj]
  rw [Zbd hi,cond_true,Zaa _ ZbC,Int.toNat_natCast,Za9,Zam hi,hp]
  simp only [Zab]
  rw [Zaf (by omega) (by omega),show (i:Int)+1=((i+1:Nat):Int) by omega,e,←List.append_assoc]
  exact ZlQ lit dist list M S hk h15 hS hn j (i+1) _ (by omega) (by rw [List.length_append];omega)
def Ztd (ts:List Tk):List Bool:=[]++Zcc 1 1++Zcc 2 2++Zcc ((ZdN ts).length-257) 5++Zcc ((Zd7 ts).length-1) 5++Zcc 15 4
def ownB (ts:List Tk):List Bool:=Ztd ts++Ze8 (Zho ts) Zbt++ZmS (Zho ts) (Zgn ts)++ZeD (ZdN ts) (Zd7 ts) ts
def Zr6 (s:Str):Str:=Ze6 (ownB (Zhc s))
theorem ZqD (s:Str) (hs:s.length≤300):ZaA s=some (Zr6 s):=by
 have hts:=Zh6 s
 have hn:=Zfv s
 have hT:=Zh9 s hs
 unfold Zr6
 generalize Zhc s=ts at hts hn hT
 have hO:=Ztc ts hts (by omega)
 have hA:=ZrO ts hts (by omega)
 have hB:=ZrN ts hts (by omega)
 have lS:(Zgn ts).length=(ZdN ts).length+(Zd7 ts).length:=List.length_append
 have o1:=hO.l1;have o2:=hO.l2;have o3:=hO.d1;have o4:=hO.d2
 have e0:=ZlT ts hts (by omega) ts.length 0 (by omega)
 rw [List.take_zero,show ((0:Nat):Int)=0 from rfl,show ZfY []=[] from rfl,show ZdJ []=[] from rfl,Ze4,Ze4] at e0
 have la:(Zlf 15 (Zgi ts).sum (Zgi ts)).length=286:=(ZgR 15 _ _ hA.1 (Nat.le_refl _)).len.trans hA.2.1
 have lb:(Zlf 15 (Zko ts).sum (Zko ts)).length=30:=(ZgR 15 _ _ hB.1 (Nat.le_refl _)).len.trans hB.2.1
 have f1:=ZiD 15 (Zgi ts) hA.1 (by omega) (by have:=ZkA (Zgi ts);rw [hA.2.1] at this;omega)
 have f2:=ZiD 15 (Zko ts) hB.1 (by omega) (by have:=ZkA (Zko ts);rw [hB.2.1] at this;omega)
 have f3:=ZiD 7 (Znl ts) hO.c (by omega) (by have:=ZkA (Znl ts);rw [show (Znl ts).length=19 from (hO.m.len).symm.trans hO.ml] at this;omega)
 have g1:=ZjN (Zlf 15 (Zgi ts).sum (Zgi ts)) (by omega) 257 (by omega)
 have g2:=ZjN (Zlf 15 (Zko ts).sum (Zko ts)) (by omega) 1 (by omega)
 rw [show ((15:Nat):Int)=15 from rfl] at f1 f2
 rw [show ((7:Nat):Int)=7 from rfl] at f3
 rw [show ((257:Nat):Int)=257 from rfl] at g1
 rw [show ((1:Nat):Int)=1 from rfl] at g2
 have c1:=ZlS (zs (ZdN ts)) (zs (Zd7 ts)) (ts.map Tk.z) (Zgn ts) (by omega) (fun s hs=>(hO.mpos s hs).2) (Zgn ts).length 0 (by omega)
 rw [List.take_zero,Ze4,show ((0:Nat):Int)=0 from rfl] at c1
 have w1:=Zc3 1 1 (by omega) (by omega) [] (by simp)
 have w2:=Zc3 2 2 (by omega) (by omega) ([]++Zcc 1 1) (by simp [Zah])
 have w3:=Zc3 ((ZdN ts).length-257) 5 (by omega) (by omega) ([]++Zcc 1 1++Zcc 2 2) (by simp [Zah])
 have w4:=Zc3 ((Zd7 ts).length-1) 5 (by omega) (by omega) ([]++Zcc 1 1++Zcc 2 2++Zcc ((ZdN ts).length-257) 5) (by simp [Zah])
 have w5:=Zc3 15 4 (by omega) (by omega) ([]++Zcc 1 1++Zcc 2 2++Zcc ((ZdN ts).length-257) 5++Zcc ((Zd7 ts).length-1) 5) (by simp [Zah])
 have hH:(Ztd ts).length=17:=by simp [Ztd,Zah]
 have hmb:=Zhr (Zho ts) Zbt
 rw [show Zbt.length=19 from rfl] at hmb
 have hab:=Zjq (Zho ts) hO.m15 (Zgn ts) (fun s hs=>by rw [hO.ml];exact (hO.mpos s hs).2)
 have w6:=ZlR (zs (ZdN ts)) (zs (Zd7 ts)) (ts.map Tk.z) (zs (Zgn ts)) (Zho ts) hO.ml hO.m7 19 0 (Ztd ts) (by omega) (by omega)
 rw [List.drop_zero,show ((0:Nat):Int)=0 from rfl] at w6
 have w7:=ZlQ (zs (ZdN ts)) (zs (Zd7 ts)) (ts.map Tk.z) (Zho ts) (Zgn ts) hO.km hO.m15 (fun s hs=>by rw [hO.ml];exact (hO.mpos s hs).2) (by omega) (Zgn ts).length 0 (Ztd ts++Ze8 (Zho ts) Zbt) (by omega) (by rw [List.length_append];omega)
 rw [List.drop_zero,show ((0:Nat):Int)=0 from rfl] at w7
 have w8:=ZjK (ZdN ts) (Zd7 ts) hO.kl hO.kd hO.l15 hO.d15 (by omega) (by omega) (by omega) ts (fun t ht=>⟨hts t ht,hO.tin t ht⟩) (by omega) (Ztd ts++Ze8 (Zho ts) Zbt++ZmS (Zho ts) (Zgn ts)) (by rw [List.length_append,List.length_append];omega)
 rw [show ((1:Nat):Int)=1 from rfl,show (([]:List Bool).length:Int)=0 from rfl,show ZdF []=[] by kernel_rfl] at w1
 rw [show ((2:Nat):Int)=2 from rfl] at w2
 rw [show ((5:Nat):Int)=5 from rfl] at w3 w4
 rw [show ((4:Nat):Int)=4 from rfl,show ((15:Nat):Int)=15 from rfl] at w5
 have eo:([16,17,18,0,8,7,9,6,10,5,11,4,12,3,13,2,14,1,15]:List Int)=zs Zbt:=rfl
 have ez:(List.replicate 286 (0:Int)).set 256 1=zs ZjH:=by kernel_rfl
 have ez2:List.replicate 30 (0:Int)=zs (List.replicate 30 0):=by kernel_rfl
 have ez3:List.replicate 19 (0:Int)=zs (List.replicate 19 0):=by kernel_rfl
 unfold ZaA
 rw [decide_eq_false (by omega),cond_false,hT,eo]
 simp only [Zab,List.length_map]
 rw [Zaa _ (by decide),Zaa _ (by decide),Zaa _ (by rw [List.length_replicate];decide),ZaY,ez,ez2]
 rw [show (decide ([]=([]:List Nat)))=true from rfl] at e0
 rw [e0]
 simp only [Zab]
 have hY:((bif decide (ZdJ ts=[]) then need (decide (0≤(0:Int))&&decide ((0:Int)<(zs (Zet ts)).length)) (some (ts.map Tk.z,zs (Zgi ts),(zs (Zet ts)).set 0 1)) else some (ts.map Tk.z,zs (Zgi ts),zs (Zet ts))):Option ((List (Int×Int×Int))×List Int×List Int))=some (ts.map Tk.z,zs (Zgi ts),zs (Zko ts)):=by
  have hl0:(Zet ts).length=30:=(ZaF _ _).trans (by rw [List.length_replicate])
  unfold Zko
  by_cases h:ZdJ ts=[]
  ·rw [decide_eq_true h,cond_true,if_pos h,Zaa _ (by rw [Zaj,hl0];decide),show (1:Int)=((1:Nat):Int) from rfl,ZfK]
  ·rw [decide_eq_false h,cond_false,if_neg h]
 rw [hY]
 simp only [Zab]
 rw [f1]
 simp only [Zab]
 rw [show Za6 (zs (Zlf 15 (Zgi ts).sum (Zgi ts))) 257=some (zs (ZdN ts)) from g1]
 simp only [Zab]
 rw [f2]
 simp only [Zab]
 rw [show Za6 (zs (Zlf 15 (Zko ts).sum (Zko ts))) 1=some (zs (Zd7 ts)) from g2]
 simp only [Zab]
 have hcat:([]++zs (ZdN ts))++zs (Zd7 ts)=zs (Zgn ts):=by rw [List.nil_append];exact (ZfL _ _).symm
 have h19:(zs Zbt).length=19:=rfl
 rw [Zad (by rw [Zaj,List.length_nil];omega),Zad (by rw [List.length_append,Zaj,Zaj,List.length_nil];omega),hcat,h19,Zaa _ (by decide),show (((19:Nat):Int).toNat)=19 from rfl,ez3,Zaj,ZaY,c1]
 simp only [Zab]
 rw [show Zaz (zs (Zev (List.replicate 19 0) (Zgn ts))) 7=some (zs (Zho ts)) from f3]
 simp only [Zab]
 rw [w1]
 simp only [Zab]
 rw [w2]
 simp only [Zab,Zaj]
 rw [Zaf (n:=((ZdN ts).length:Int)-257) (by omega) (by omega),show ((ZdN ts).length:Int)-257=(((ZdN ts).length-257:Nat):Int) by omega,w3]
 simp only [Zab]
 rw [Zaf (n:=((Zd7 ts).length:Int)-1) (by omega) (by omega),show ((Zd7 ts).length:Int)-1=(((Zd7 ts).length-1:Nat):Int) by omega,w4]
 simp only [Zab]
 rw [show w64 (((19:Nat):Int)-4)=15 by decide,w5]
 simp only [Zab]
 rw [show ((((19:Nat):Int)-0).toNat+1)=19+1 from rfl,show ((19:Nat):Int)=19 from rfl]
 rw [show ([]++Zcc 1 1++Zcc 2 2++Zcc ((ZdN ts).length-257) 5++Zcc ((Zd7 ts).length-1) 5++Zcc 15 4)=Ztd ts from rfl,w6]
 simp only [Zab]
 have hml:=hO.ml
 rw [ZhZ (Zho ts) (by omega)]
 simp only [Zab,Zaj]
 rw [ZaY,w7]
 simp only [Zab]
 rw [w8]
 rfl
def ZeT (s:Str):Str:=
 let a:=if (Zfj s).length<(ZeF s).length then Zfj s else ZeF s
 if (Zr6 s).length<a.length then Zr6 s else a
theorem Zkf (a b s:Str):ZaH.l0 1 (s,2,2,[a,b])=some s:=rfl
theorem Zkg (a b s:Str):ZaH.l0 2 (s,2,1,[a,b])=some (if b.length<s.length then b else s):=by
 rw [ZaH.l0.succ];simp only [ZaH.l0.step]
 by_cases h:b.length<s.length
 ·rw [if_pos h,←Zkf a b b]
  show (bif decide ((b.length:Int)<(s.length:Int)) then ZaH.l0 1 (b,2,2,[a,b]) else ZaH.l0 1 (s,2,2,[a,b]))=_
  rw [decide_eq_true (by omega),cond_true]
 ·rw [if_neg h,←Zkf a b s]
  show (bif decide ((b.length:Int)<(s.length:Int)) then ZaH.l0 1 (b,2,2,[a,b]) else ZaH.l0 1 (s,2,2,[a,b]))=_
  rw [decide_eq_false (by omega),cond_false]
theorem ZpE (a b s:Str):ZaH.l0 3 (s,2,0,[a,b])=some (let c:=if a.length<s.length then a else s;if b.length<c.length then b else c):=by
 rw [ZaH.l0.succ];simp only [ZaH.l0.step]
 show (bif decide ((a.length:Int)<(s.length:Int)) then ZaH.l0 2 (a,2,1,[a,b]) else ZaH.l0 2 (s,2,1,[a,b]))=_
 rw [Zkg,Zkg]
 by_cases h:a.length<s.length
 ·rw [decide_eq_true (by omega),cond_true,if_pos h]
 ·rw [decide_eq_false (by omega),cond_false,if_neg h]
theorem ZnE (s:Str) (hs:s.length≤300):ZaH s=some (ZeT s):=by
 unfold ZaH
 rw [Zna s hs]
 simp only [Zab]
 rw [ZnI s hs]
 simp only [Zab]
 rw [ZqD s hs]
 simp only [Zab]
 rw [show ((([Zfj s,Zr6 s]:List Str).length:Int)-0).toNat+1=3 from rfl,show ((([Zfj s,Zr6 s]:List Str).length:Int))=2 from rfl,ZpE]
 rfl
end Ev
end
section
namespace Ev
open Go
def Znp (ds:List Nat) (go:List Bool→List Int→Option (List Bool×List Int)) (c:Nat) (l1:List Bool) (out:List Int):Option (List Bool×List Int):=
 match ZjZ ds (ZbS (Zcs.getD c 0) (some l1)) with
 | none=>none
 | some (k,l3)=>if 30≤k then none else match ZbS (ZcR.getD k 0) (some l3) with
  | none=>none
  | some l4=>match ZpL out (ZaG.getD c 0+ZbR (l1.take (Zcs.getD c 0))) (ZaU.getD k 0+ZbR (l3.take (ZcR.getD k 0))) with
   | none=>none
   | some o=>go l4 o
def Zno (ls ds:List Nat) (go:List Bool→List Int→Option (List Bool×List Int)) (l:List Bool) (out:List Int):Option (List Bool×List Int):=
 if 300<out.length then none else match ZjZ ls (some l) with
 | none=>none
 | some (i,l1)=>if i=256 then some (l1,out) else if i<256 then go l1 (out++[(i:Int)]) else if 28≤i-257 then none else Znp ds go (i-257) l1 out
def ZqV (ls ds:List Nat):Nat→List Bool→List Int→Option (List Bool×List Int)
 | 0=>fun _ _=>none
 | f+1=>Zno ls ds (ZqV ls ds f)
theorem ZeJ (ls ds:List Nat) (f:Nat) (l:List Bool) (out:List Int):ZqV ls ds (f+1) l out=Zno ls ds (ZqV ls ds f) l out:=rfl
theorem ZjQ (ns:List Nat):∀(f l c:Nat) (b:List Bool) {i:Nat} {r:List Bool},Ze7 ns f l c b=some (i,r)→r.length<b.length∧i<ns.length
 | 0,l,c,b,i,r,h=>by simp [Ze7] at h
 | f+1,l,c,[],i,r,h=>by simp [Ze7] at h
 | f+1,l,c,x::b,i,r,h=>by
  simp only [Ze7] at h
  cases hf:ZeE ns ns.length (2*c+x.toNat) l with
  | none=>
   rw [hf] at h
   have:=ZjQ ns f (l+1) _ b h
   exact ⟨by simp;omega,this.2⟩
  | some j=>
   rw [hf] at h
   obtain ⟨rfl,rfl⟩:=Prod.mk.inj (Option.some.inj h)
   exact ⟨by simp,(ZgT hf).1⟩
theorem Zd9 {ns:List Nat} {b:List Bool} {i:Nat} {r:List Bool} (h:ZjZ ns (some b)=some (i,r)):r.length<b.length∧i<ns.length:=ZjQ ns 15 1 0 b h
theorem Za0 {k:Nat} {b r:List Bool} (h:ZbS k (some b)=some r):k≤b.length∧r=b.drop k:=by
 simp only [ZbS] at h
 split at h
 ·rename_i c;exact ⟨c,(Option.some.inj h).symm⟩
 ·cases h
def Zlo (s:Str) (m:Option (List Bool×List Int)) (x:Option (Str×Int×Bool×List Int)) (y:Option (Str×Int×Bool)):Prop:=match m with
 | some (l,o)=>∃a,x=some (s,a,false,o)∧Rs s a false (some l)
 | none=>(∃a b o,x=some (s,a,b,o)∧(b=true∨300<o.length))∨(x=none∧∃a,y=some (s,a,true))
def gP (r:(Str×Int×Bool×List Int)⊕(Str×Int×Bool×List Int)):Option (Str×Int×Bool×List Int):=match r with
 | .inl (o5,o6,o7,out2)=>some (o5,o6,o7,out2)
 | .inr r=>some r
def gB (r:(Str×Int×Bool×List Int)⊕(Str×Int×Bool)):Option (Str×Int×Bool):=match r with
 | .inl (o5,o6,o7,out2)=>some (o5,o6,o7)
 | .inr r=>some r
theorem ZsG (k:Nat) (h:k<28):3≤ZaG.getD k 0∧ZaG.getD k 0≤1000:=by
 have:(List.range 28).all (fun k=>decide (3≤ZaG.getD k 0∧ZaG.getD k 0≤1000))=true:=by decide
 simpa using List.all_eq_true.1 this k (List.mem_range.2 h)
theorem Zs0 (k:Nat) (h:k<30):1≤ZaU.getD k 0∧ZaU.getD k 0≤100000:=by
 have:(List.range 30).all (fun k=>decide (1≤ZaU.getD k 0∧ZaU.getD k 0≤100000))=true:=by decide
 simpa using List.all_eq_true.1 this k (List.mem_range.2 h)
theorem ZiY {out o:List Int} {l k:Nat} (h:ZpL out l k=some o):o.length≤out.length+60:=by
 unfold ZpL at h
 split at h
 ·rename_i c
  rw [←Option.some.inj h,ZhB];omega
 ·cases h
theorem wrap_u8 (n:Nat) (h:n<256):IntKind.wrap .u8 (n:Int)=(n:Int):=by
 have:=IntKind.wrap_u8 (n:Int)
 rw [this];omega
set_option maxRecDepth 100000 in
theorem Zo8 {s:Str} (hs:s.length≤1000000000) (ls ds:List Nat) (hls:ls.length≤1000) (hds:ds.length≤1000) {A B:List ((Int×Int)×Int)} (hA:ZmW ls ls.length A) (hB:ZmW ds ds.length B):∀(f F:Nat) (l:List Bool) (out:List Int) (at_:Int),l.length<f→f≤F→out.length≤400→Rs s at_ false (some l)→
  Zlo s (ZqV ls ds f l out) ((Zbu.l0 F (s,at_,false,out,A,B)).bind gP) ((ZaE.l0 F (s,at_,false,out,A,B)).bind gB):=by
 intro f
 induction f with
 | zero=>intro F l out at_ hf hF ho h;exact absurd hf (Nat.not_lt_zero _)
 | succ f ih=>
  intro F l out at_ hf hF ho h
  cases F with
  | zero=>exact absurd hF (by omega)
  | succ F=>
  rw [Zbu.l0.succ,ZaE.l0.succ];simp only [Zbu.l0.step,ZaE.l0.step]
  simp only [Bool.not_false,cond_true,Zab]
  rw [ZeJ]
  unfold Zno
  by_cases h300:300<out.length
  ·rw [if_pos h300,decide_eq_false (by omega),cond_false]
   exact .inl ⟨at_,false,out,rfl,.inr h300⟩
  rw [if_neg h300,decide_eq_true (by omega),cond_true,cond_true]
  obtain ⟨⟨r,s1,a1,b1,A1⟩,e1,hs1,hA1,hp⟩:=ZgD hs ls hA h
  dsimp only at e1 hs1 hA1 hp
  subst s1
  subst A1
  rw [e1]
  simp only [Zab]
  cases hm:ZjZ ls (some l) with
  | none=>
   rw [hm] at hp
   obtain ⟨rfl,hr⟩:=hp
   have hb:b1=true:=hr.1
   subst hb
   simp only [cond_true,Zab]
   exact .inl ⟨a1,true,out,rfl,.inl rfl⟩
  | some p=>
   obtain ⟨i,l1⟩:=p
   rw [hm] at hp
   obtain ⟨rfl,hr⟩:=hp
   obtain ⟨hless,hin⟩:=Zd9 hm
   have hb:b1=false:=hr.1
   subst hb
   simp only [cond_false,Zab]
   by_cases h256:i=256
   ·subst h256
    rw [if_pos rfl,show (((256:Nat):Int)==256)=true by simp]
    simp only [cond_true]
    exact ⟨a1,rfl,hr⟩
   rw [if_neg h256,show ((i:Int)==256)=false by simp;omega]
   simp only [cond_false]
   by_cases hlt:i<256
   ·rw [if_pos hlt,decide_eq_true (by omega),cond_true,cond_true,Zad (by simp;omega),Zad (by simp;omega),wrap_u8 i hlt]
    exact ih F l1 (out++[(i:Int)]) a1 (by omega) (by omega) (by simp;omega) hr
   rw [if_neg hlt,decide_eq_false (by omega),cond_false,cond_false,Zaf (n:=(i:Int)-257) (by omega) (by omega),show (i:Int)-257=((i-257:Nat):Int) by omega]
   by_cases h28:28≤i-257
   ·rw [if_pos h28,decide_eq_true (by omega),cond_true,cond_true]
    exact .inl ⟨a1,true,out,rfl,.inl rfl⟩
   rw [if_neg h28,decide_eq_false (by omega),cond_false,cond_false]
   have eL:=ZgL
   have eB:=Zg6
   have gL:=fun i:Nat=>Za9 ZaG i
   have gM:=fun i:Nat=>Za9 Zcs i
   have gK:=fun i:Nat=>Za9 ZaU i
   have gC:=fun i:Nat=>Za9 ZcR i
   have nL:(zs ZaG).length=28:=Zaj ZaG
   have nM:(zs Zcs).length=28:=Zaj Zcs
   have nB:(zs ZaU).length=30:=Zaj ZaU
   have nC:(zs ZcR).length=30:=Zaj ZcR
   generalize zs ZaG=A1 at eL gL nL
   generalize zs Zcs=A2 at eL gM nM
   generalize zs ZaU=A3 at eB gK nB
   generalize zs ZcR=A4 at eB gC nC
   have hlb:=ZkU (i-257)
   rw [eL,eB]
   simp only [Zab]
   rw [Zaa _ (ZaM (by omega)),Zaa _ (ZaM (by omega)),Zaa _ (ZaM (by omega)),Zaa _ (ZaM (by omega)),Int.toNat_natCast,gL,gM]
   obtain ⟨⟨v,s2,a2,b2⟩,e2,hs2,⟨n,hv,hn,hnv⟩,hr2⟩:=Zc7 hs (Zcs.getD (i-257) 0) (by omega) hr
   dsimp only at e2 hs2 hv hr2
   subst s2
   subst hv
   rw [e2]
   simp only [Zab]
   obtain ⟨⟨k,s3,a3,b3,A5⟩,e3,hs3,hA3,hp3⟩:=ZgD hs ds hB hr2
   dsimp only at e3 hs3 hA3 hp3
   subst s3
   subst A5
   rw [e3]
   simp only [Zab]
   have hn5:n<2^5:=Nat.lt_of_lt_of_le hn (Nat.pow_le_pow_right (by omega) hlb)
   have hl1:=ZsG (i-257) (by omega)
   have hk:∃(kk:Nat) (m3:Option (List Bool)),k=(kk:Int)∧Rs s a3 b3 m3∧((ZjZ ds (ZbS (Zcs.getD (i-257) 0) (some l1))=none∧kk=0∧m3=none)∨∃l3,ZjZ ds (ZbS (Zcs.getD (i-257) 0) (some l1))=some (kk,l3)∧m3=some l3):=by
    cases hm3:ZjZ ds (ZbS (Zcs.getD (i-257) 0) (some l1)) with
    | none=>rw [hm3] at hp3;exact ⟨0,none,hp3.1,hp3.2,.inl ⟨rfl,rfl,rfl⟩⟩
    | some p=>obtain ⟨kk,l3⟩:=p;rw [hm3] at hp3;exact ⟨kk,some l3,hp3.1,hp3.2,.inr ⟨l3,rfl,rfl⟩⟩
   obtain ⟨kk,m3,rfl,hr3,hk⟩:=hk
   by_cases h30:30≤kk
   ·rw [decide_eq_true (by omega),cond_true,cond_true]
    rcases hk with ⟨_,h0,_⟩ | ⟨l3,hm3,_⟩
    ·omega
    ·have hz:Znp ds (ZqV ls ds f) (i-257) l1 out=none:=by
      unfold Znp
      rw [hm3]
      dsimp only
      rw [if_pos h30]
     rw [hz]
     exact .inl ⟨a3,true,out,rfl,.inl rfl⟩
   rw [decide_eq_false (by omega),cond_false,cond_false]
   have hbb:=Zln kk
   have hb1:=Zs0 kk (by omega)
   rw [Zaa _ (ZaM (by omega)),Zaa _ (ZaM (by omega)),Zaa _ (ZaM (by omega)),Zaa _ (ZaM (by omega)),Int.toNat_natCast,gK,gC]
   obtain ⟨⟨w,s4,a4,b4⟩,e4,hs4,⟨u,hw,hu,huv⟩,hr4⟩:=Zc7 hs (ZcR.getD kk 0) (by omega) hr3
   dsimp only at e4 hs4 hw hr4
   subst s4
   subst hw
   rw [e4]
   simp only [Zab]
   have hu13:u<2^13:=Nat.lt_of_lt_of_le hu (Nat.pow_le_pow_right (by omega) hbb)
   rw [Zaf (n:=((ZaG.getD (i-257) 0:Nat):Int)+(n:Int)) (by omega) (by omega),Zaf (n:=((ZaU.getD kk 0:Nat):Int)+(u:Int)) (by omega) (by omega),
    show ((ZaG.getD (i-257) 0:Nat):Int)+(n:Int)=((ZaG.getD (i-257) 0+n:Nat):Int) by omega,show ((ZaU.getD kk 0:Nat):Int)+(u:Int)=((ZaU.getD kk 0+u:Nat):Int) by omega,
    Zue _ _ out (by omega) (by omega) (by omega)]
   simp only [Zab]
   cases hm4:ZbS (ZcR.getD kk 0) m3 with
   | none=>
    rw [hm4] at hr4
    have hb:b4=true:=hr4.1
    subst hb
    have hmodel:Znp ds (ZqV ls ds f) (i-257) l1 out=none:=by
     unfold Znp
     rcases hk with ⟨h0,_,_⟩ | ⟨l3,h0,rfl⟩
     ·rw [h0]
     ·rw [h0]
      dsimp only
      rw [if_neg h30,hm4]
    rw [hmodel]
    have hc:∀x:Bool,(bif !x then some true else some true)=some true:=fun x=>by cases x<;>rfl
    rw [hc]
    exact .inr ⟨rfl,a4,rfl⟩
   | some l4=>
    rw [hm4] at hr4
    have hb:b4=false:=hr4.1
    subst hb
    rcases hk with ⟨_,_,rfl⟩ | ⟨l3,h0,rfl⟩
    ·simp [ZbS] at hm4
    ·
     have hm2:∃l2,ZbS (Zcs.getD (i-257) 0) (some l1)=some l2:=by
      cases h2:ZbS (Zcs.getD (i-257) 0) (some l1) with
      | none=>rw [h2] at h0;simp [ZjZ] at h0
      | some l2=>exact ⟨l2,rfl⟩
     obtain ⟨l2,hm2⟩:=hm2
     obtain ⟨hlen2,hl2⟩:=Za0 hm2
     obtain ⟨hlen4,hl4⟩:=Za0 hm4
     rw [hm2] at h0
     have hl3:=(Zd9 h0).1
     have hmodel:Znp ds (ZqV ls ds f) (i-257) l1 out=match ZpL out (ZaG.getD (i-257) 0+ZbR (l1.take (Zcs.getD (i-257) 0))) (ZaU.getD kk 0+ZbR (l3.take (ZcR.getD kk 0))) with
       | none=>none
       | some o=>ZqV ls ds f l4 o:=by
      unfold Znp
      rw [hm2,h0]
      dsimp only
      rw [if_neg h30,hm4]
     rw [hmodel,hnv l1 rfl hlen2,huv l3 rfl hlen4]
     cases hfm:ZpL out (ZaG.getD (i-257) 0+ZbR (l1.take (Zcs.getD (i-257) 0))) (ZaU.getD kk 0+ZbR (l3.take (ZcR.getD kk 0))) with
     | none=>exact .inr ⟨rfl,a4,rfl⟩
     | some o=>
      have hol:=ZiY hfm
      have hd4:l4.length<l.length:=by
       rw [hl4,List.length_drop]
       rw [hl2,List.length_drop] at hl3
       omega
      exact ih F l4 o a4 (by omega) (by omega) (by omega) hr4
end Ev
end
