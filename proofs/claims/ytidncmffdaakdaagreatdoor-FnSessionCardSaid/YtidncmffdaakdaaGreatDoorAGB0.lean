/- Plain laws about what the functions compute. Conditions: as stated. -/
import Derived.KernelRfl
import Derived.Test.YtidncmffdaakdaaGreatDoorAGP0
set_option linter.unusedVariables false
set_option linter.unusedSimpArgs false
section
namespace Ev
open Go
def Ret {α:Type} (x:Option α) (Q:α→Prop):Prop:=∃a,x=some a∧Q a
theorem Ret.pure {α:Type} {a:α} {Q:α→Prop} (h:Q a):Ret (some a) Q:=⟨a,rfl,h⟩
theorem Ret.of {α:Type} {x:Option α} {a:α} {Q:α→Prop} (e:x=some a) (h:Q a):Ret x Q:=⟨a,e,h⟩
theorem Ret.mono {α:Type} {x:Option α} {P Q:α→Prop} (h:Ret x P) (k:∀a,P a→Q a):Ret x Q:=by
 obtain ⟨a,e,q⟩:=h;exact ⟨a,e,k a q⟩
theorem Ret.bind {α β:Type} {x:Option α} {f:α→Option β} {P:α→Prop} {Q:β→Prop} (h:Ret x P) (k:∀a,P a→Ret (f a) Q):Ret (x.bind f) Q:=by
 obtain ⟨a,rfl,q⟩:=h;exact k a q
theorem Ret.need {α:Type} {b:Bool} {x:Option α} {Q:α→Prop} (h:b=true) (k:Ret x Q):Ret (Ev.need b x) Q:=by subst h;exact k
theorem Ret.cond {α:Type} {b:Bool} {x y:Option α} {Q:α→Prop} (h1:b=true→Ret x Q) (h0:b=false→Ret y Q):Ret (bif b then x else y) Q:=by
 cases b
 ·exact h0 rfl
 ·exact h1 rfl
theorem Ret.ite {α:Type} {p:Prop} [Decidable p] {x y:Option α} {Q:α→Prop} (h1:p→Ret x Q) (h0:¬p→Ret y Q):Ret (if p then x else y) Q:=by
 by_cases h:p
 ·rw [if_pos h];exact h1 h
 ·rw [if_neg h];exact h0 h
theorem Ret.map {α β:Type} {x:Option α} {f:α→β} {Q:β→Prop} (h:Ret x (fun a=>Q (f a))):Ret (x.map f) Q:=by
 obtain ⟨a,rfl,q⟩:=h;exact ⟨f a,rfl,q⟩
theorem Ret.loop {T σ:Type} {step:(T→Option σ)→T→Option σ} (Inv:T→Prop) (μ:T→Nat) (Q:T→σ→Prop)
  (h:∀again t,Inv t→(∀t',Inv t'→μ t'<μ t→Ret (again t') (Q t'))→Ret (step again t) (Q t)):∀n t,Inv t→μ t<n→Ret (ZaB step n t) (Q t)
 | 0,_,_,hn=>absurd hn (Nat.not_lt_zero _)
 | n+1,t,hi,hn=>h _ t hi fun t' hi' hm=>Ret.loop Inv μ Q h n t' hi' (by omega)
theorem Zas {α:Type} {p q:Prop} [Decidable p] [Decidable q] {x:Option α} (hp:p) (hq:q):need (decide p&&decide q) x=x:=Zab _ (by simp [hp,hq])
theorem Zaq {α:Type} {p:Prop} [Decidable p] {x:Option α} (hp:p):need (decide p) x=x:=Zab _ (by simp [hp])
theorem Zal {α:Type} {p:Prop} [Decidable p] {x:Option α} {n:Nat} (hp:p) (hn:n≤1099511627776):need (decide p&&fits n) x=x:=Zab _ (by simp [hp,Ze5 hn])
theorem Zad {α:Type} {n:Nat} {x:Option α} (h:n≤1099511627776):need (fits n) x=x:=Zab _ (Ze5 h)
theorem ZaD {α:Type} {a b:Int} {x:Option α} (h:a≠b):need (a != b) x=x:=Zab _ (by simp [h])
theorem Za8 {α:Type} {x:Option α}:need true x=x:=rfl
theorem ZbG {α:Type} (p:Prop) [Decidable p] (x y:α):(bif decide p then x else y)=if p then x else y:=by
 by_cases h:p<;>simp [h]
theorem Zen {α β:Type} [BEq β] [LawfulBEq β] [DecidableEq β] (a b:β) (x y:α):(bif a==b then x else y)=if a=b then x else y:=by
 by_cases h:a=b
 ·simp [h]
 ·rw [if_neg h,beq_false_of_ne h];rfl
theorem Zes {α β:Type} [BEq β] [LawfulBEq β] [DecidableEq β] (a b:β) (x y:α):(bif a != b then x else y)=if a=b then y else x:=by
 by_cases h:a=b
 ·simp [h]
 ·rw [if_neg h,bne,beq_false_of_ne h];rfl
theorem ZbU {α:Type} (b:Bool) (x y:α):(bif !b then x else y)=bif b then y else x:=by cases b<;>rfl
theorem ZaE {α:Type} (p:Prop) [Decidable p] (x y:α):(bif !decide p then x else y)=if p then y else x:=by
 by_cases h:p<;>simp [h]
theorem ZaG {a b:Int} (h:0≤a):a.tmod b=a%b:=Int.tmod_eq_emod_of_nonneg h
theorem ZaF {a b:Int} (h:0≤a):a.tdiv b=a/b:=Int.tdiv_eq_ediv_of_nonneg h
theorem Zae {α β:Type} (a:α) (f:α→Option β):(some a).bind f=f a:=rfl
theorem Zan {α:Type} {l:List α} {i:Nat} {d:α} (h:i<l.length):l.getD i d=l[i]:=by simp [List.getD,h]
end Ev
end
section
namespace Ev
open Go
theorem Zg6 {n:Int} (h1:-9223372036854775808≤n) (h2:n≤9223372036854775807):IntKind.i64.wrap n=n:=Zaf h1 h2
theorem Zzs (x y:Nat) (hx:x<4611686018427387904) (hy:y<4611686018427387904):Zl2 .i64 (x:Int) (y:Int)=((x^^^y:Nat):Int):=by
 have hz:x^^^y<2^62:=Nat.xor_lt_two_pow (by omega) (by omega)
 unfold Zl2
 have e:(BitVec.ofInt IntKind.i64.bits (x:Int)^^^BitVec.ofInt IntKind.i64.bits (y:Int)).toNat=x^^^y:=by
  simp only [BitVec.ofInt_natCast,BitVec.toNat_xor,BitVec.toNat_ofNat,show IntKind.i64.bits=64 from rfl]
  rw [Nat.mod_eq_of_lt (by omega),Nat.mod_eq_of_lt (by omega)]
 rw [e,Zg6 (by omega) (by omega)]
theorem Zzr {x y:Int} (hx:0≤x) (hx2:x<4611686018427387904) (hy:0≤y) (hy2:y<4611686018427387904):0≤Zl2 .i64 x y:=by
 obtain ⟨a,rfl⟩:=Int.eq_ofNat_of_zero_le hx
 obtain ⟨b,rfl⟩:=Int.eq_ofNat_of_zero_le hy
 rw [Zzs a b (by omega) (by omega)];omega
def ZAa (b:List Int) (p:Int):Prop:=b.length≤2000∧(∀x,x∈b→0≤x∧x≤255)∧0≤p
theorem ZAa.up {b:List Int} {p q:Int} (h:ZAa b p) (hq:p≤q):ZAa b q:=⟨h.1,h.2.1,by have:=h.2.2;omega⟩
theorem Znf {b:List Int} (h:∀x,x∈b→0≤x∧x≤255) (i:Nat):0≤b.getD i 0∧b.getD i 0≤255:=by
 by_cases hi:i<b.length
 ·rw [Zan hi];exact h _ (List.getElem_mem hi)
 ·have:b.getD i 0=0:=by simp [List.getD,List.getElem?_eq_none (by omega:b.length≤i)]
  rw [this];omega
theorem Zug (n:Int) {b:List Int} {p:Int} (h:ZAa b p) (hp:p≤1000000000) (hn:n≤1000000000) :
  Ret (pick n b p) fun r=>r.2.1=b∧r.2.2=p+1∧0≤r.1∧(r.1<n∨(r.1=0∧(n<1∨b=[]))):=by
 obtain ⟨h1,h2,h3⟩:=h
 unfold pick
 ((try simp (disch:=omega) only [Zas,Zaq,Zal,Zad,ZaD,Za8,Zaf,ZaG,ZaF,Zae,Option.map_some,cond_true,cond_false,Int.sub_zero,Int.toNat_natCast]);(try simp only [ZbG,Zen,Zes,ZaE,ZbU,if_true,if_false]))
 by_cases hn1:n<1
 ·simp only [if_pos hn1,Zae,cond_true]
  exact .pure ⟨rfl,rfl,by omega,.inr ⟨rfl,.inl hn1⟩⟩
 ·by_cases hb:b=[]
  ·subst hb
   simp only [if_neg hn1,Zae,List.length_nil,show (((0:Nat):Int)==0)=true from rfl,cond_true]
   exact .pure ⟨rfl,rfl,by omega,.inr ⟨rfl,.inr trivial⟩⟩
  ·have hl:0<b.length:=List.length_pos_iff.2 hb
   have e:((b.length:Int)==0)=false:=by simp;omega
   have hpp:p+1-1=p:=by omega
   simp only [if_neg hn1,Zae,e,cond_false,hpp]
   have hbl:(b.length:Int)≠0:=by omega
   have m1:0≤p%(b.length:Int):=Int.emod_nonneg _ hbl
   have m2:p%(b.length:Int)<b.length:=Int.emod_lt_of_pos _ (by omega)
   have m3:0≤(p*7+3)%(b.length:Int):=Int.emod_nonneg _ hbl
   have m4:(p*7+3)%(b.length:Int)<b.length:=Int.emod_lt_of_pos _ (by omega)
   have m5:0≤p/(b.length:Int):=Int.ediv_nonneg h3 (by omega)
   have m6:p/(b.length:Int)≤p:=Int.ediv_le_self _ h3
   refine .ite (fun hlt=>?_) fun hlt=>?_
   ·have g:=Znf h2 p.toNat
    ((try simp (disch:=omega) only [Zas,Zaq,Zal,Zad,ZaD,Za8,Zaf,ZaG,ZaF,Zae,Option.map_some,cond_true,cond_false,Int.sub_zero,Int.toNat_natCast]);(try simp only [ZbG,Zen,Zes,ZaE,ZbU,if_true,if_false]))
    refine .pure ⟨rfl,rfl,Int.emod_nonneg _ (by omega),.inl (Int.emod_lt_of_pos _ (by omega))⟩
   ·((try simp (disch:=omega) only [Zas,Zaq,Zal,Zad,ZaD,Za8,Zaf,ZaG,ZaF,Zae,Option.map_some,cond_true,cond_false,Int.sub_zero,Int.toNat_natCast]);(try simp only [ZbG,Zen,Zes,ZaE,ZbU,if_true,if_false]))
    have g1:=Znf h2 (p%(b.length:Int)).toNat
    have g2:=Znf h2 ((p*7+3)%(b.length:Int)).toNat
    generalize b.getD (p%(b.length:Int)).toNat 0=x at *
    generalize b.getD ((p*7+3)%(b.length:Int)).toNat 0=y at *
    generalize p/(b.length:Int)=z at *
    ((try simp (disch:=omega) only [Zas,Zaq,Zal,Zad,ZaD,Za8,Zaf,ZaG,ZaF,Zae,Option.map_some,cond_true,cond_false,Int.sub_zero,Int.toNat_natCast]);(try simp only [ZbG,Zen,Zes,ZaE,ZbU,if_true,if_false]))
    have hx:=Zzr (x:=x*131+y*1117+p*29+z*53) (y:=(x*131+y*1117+p*29+z*53)/64) (by omega) (by omega) (by omega) (by omega)
    ((try simp (disch:=omega) only [Zas,Zaq,Zal,Zad,ZaD,Za8,Zaf,ZaG,ZaF,Zae,Option.map_some,cond_true,cond_false,Int.sub_zero,Int.toNat_natCast]);(try simp only [ZbG,Zen,Zes,ZaE,ZbU,if_true,if_false]))
    refine .pure ⟨rfl,rfl,Int.emod_nonneg _ (by omega),.inl (Int.emod_lt_of_pos _ (by omega))⟩
theorem ZyV (xs:List Str) {b:List Int} {p:Int} (h:ZAa b p) (hp:p≤1000000000) (hx:0<xs.length) (hx2:xs.length≤1000000000) :
  Ret (Ztc xs b p) fun r=>r.2.1=b∧r.2.2=p+1∧r.1∈xs:=by
 unfold Ztc
 refine .bind (Zug _ h hp (by omega)) ?_
 rintro ⟨r,b',p'⟩ ⟨rfl,rfl,h0,h1⟩
 dsimp only at h0 h1 ⊢
 have hlt:r<xs.length:=by omega
 ((try simp (disch:=omega) only [Zas,Zaq,Zal,Zad,ZaD,Za8,Zaf,ZaG,ZaF,Zae,Option.map_some,cond_true,cond_false,Int.sub_zero,Int.toNat_natCast]);(try simp only [ZbG,Zen,Zes,ZaE,ZbU,if_true,if_false]))
 refine .pure ⟨rfl,rfl,?_⟩
 rw [Zan (by omega)]
 exact List.getElem_mem _
end Ev
end
section
namespace Ev
open Go
def Drawn {α:Type} (b:List Int) (p c:Int) (Q:α→Prop) (r:α×List Int×Int):Prop:=r.2.1=b∧p≤r.2.2∧r.2.2≤p+c∧Q r.1
theorem ZwW (n:Int) {b:List Int} {p:Int} (h:ZAa b p) (hp:p≤1000000000) (hn0:1≤n) (hn:n≤1000000000):Ret (pick n b p) (Drawn b p 1 fun x=>0≤x∧x<n):=
 (Zug n h hp hn).mono fun r ⟨h1,h2,h3,h4⟩=>⟨h1,by omega,by omega,h3,by omega⟩
theorem rdOf_d (xs:List Str) {b:List Int} {p:Int} (h:ZAa b p) (hp:p≤1000000000) (hx:0<xs.length) (hx2:xs.length≤1000000000):Ret (Ztc xs b p) (Drawn b p 1 fun x=>x∈xs):=
 (ZyV xs h hp hx hx2).mono fun r ⟨h1,h2,h3⟩=>⟨h1,by omega,by omega,h3⟩
end Ev
end
section
namespace Ev
open Go
def nameL:List Str:=[[97],[98,46,116,120,116],[100,105,114,47,97],[100,105,114,47,98],[120,45,121,95,122],[97,47,98,47,99,47,100],[114,101,97,100,109,101],[],[47],[97,47],[46,46],[97,47,46,46,47,98],[65],[97,32,98],[101,108,101,118,101,110,108,101,116,116,101],[97,47,98,47,99,47,100,47,101],[102,48],[102,49],[102,50],[102,51],[102,52],[102,53]]
theorem Zxd:∀s∈nameL,s.length≤11:=by decide
end Ev
end
section
namespace Ev
open Go
theorem Ze9 (n k:Nat) (hk:k≤64):Zm4 .i64 (n:Int) (k:Int)=((n/2^k:Nat):Int):=by
 unfold Zm4
 rw [Int.toNat_natCast,show min k IntKind.i64.bits=k from Nat.min_eq_left hk,show ((2:Int)^k)=((2^k:Nat):Int) by simp,Int.fdiv_eq_ediv_of_nonneg _ (Int.natCast_nonneg _)]
 exact (Int.natCast_ediv n (2^k)).symm
theorem ZeH (n k:Nat) (hk:k≤64) (h:n*2^k<9223372036854775808):Zr2 .i64 (n:Int) (k:Int)=((n*2^k:Nat):Int):=by
 unfold Zr2
 rw [Int.toNat_natCast,show min k IntKind.i64.bits=k from Nat.min_eq_left hk,show ((2:Int)^k)=((2^k:Nat):Int) by simp,←Int.natCast_mul]
 exact Zg6 (by omega) (by omega)
theorem ZuN (x y:Nat) (hx:x<9223372036854775808) (hy:y<9223372036854775808):ZkR .i64 (x:Int) (y:Int)=((x &&& y:Nat):Int):=by
 have hz:x &&& y<2^63:=Nat.and_lt_two_pow _ (by omega)
 unfold ZkR
 have e:(BitVec.ofInt IntKind.i64.bits (x:Int) &&& BitVec.ofInt IntKind.i64.bits (y:Int)).toNat=x &&& y:=by
  simp only [BitVec.ofInt_natCast,BitVec.toNat_and,BitVec.toNat_ofNat,show IntKind.i64.bits=64 from rfl]
  rw [Nat.mod_eq_of_lt (by omega),Nat.mod_eq_of_lt (by omega)]
 rw [e,Zg6 (by omega) (by omega)]
theorem Zja (x y:Nat) (hx:x<9223372036854775808) (hy:y<9223372036854775808):ior .i64 (x:Int) (y:Int)=((x ||| y:Nat):Int):=by
 have hz:x ||| y<2^63:=Nat.or_lt_two_pow (by omega) (by omega)
 unfold ior
 have e:(BitVec.ofInt IntKind.i64.bits (x:Int) ||| BitVec.ofInt IntKind.i64.bits (y:Int)).toNat=x ||| y:=by
  simp only [BitVec.ofInt_natCast,BitVec.toNat_or,BitVec.toNat_ofNat,show IntKind.i64.bits=64 from rfl]
  rw [Nat.mod_eq_of_lt (by omega),Nat.mod_eq_of_lt (by omega)]
 rw [e,Zg6 (by omega) (by omega)]
theorem Zz1 (x y:Nat) (hx:x<256) (hy:y<256):ior .u8 (x:Int) (y:Int)=((x ||| y:Nat):Int):=by
 have hz:x ||| y<2^8:=Nat.or_lt_two_pow (by omega) (by omega)
 unfold ior
 have e:(BitVec.ofInt IntKind.u8.bits (x:Int) ||| BitVec.ofInt IntKind.u8.bits (y:Int)).toNat=x ||| y:=by
  simp only [BitVec.ofInt_natCast,BitVec.toNat_or,BitVec.toNat_ofNat,show IntKind.u8.bits=8 from rfl]
  rw [Nat.mod_eq_of_lt (by omega),Nat.mod_eq_of_lt (by omega)]
 rw [e,show IntKind.u8.wrap=IntKind.wrap .u8 from rfl]
 have:=wrap_u8' (((x ||| y:Nat)):Int)
 rw [this];omega
where
 wrap_u8' (n:Int):IntKind.wrap .u8 n=n%256:=by simp [IntKind.wrap,IntKind.bits,IntKind.signed]
theorem Zl3 (x:Nat) (hx:x<9223372036854775808):ZkR .i64 (x:Int) 1=((x%2:Nat):Int):=by
 have:=ZuN x 1 hx (by omega)
 rw [Nat.and_one_is_mod] at this
 exact this
theorem Zlx (x c k:Nat) (h:x<2^k):x ||| c*2^k=x+c*2^k:=by
 have:=Nat.two_pow_add_eq_or_of_lt h c
 rw [Nat.or_comm,Nat.mul_comm c,←this,Nat.add_comm]
theorem Zef (n k:Nat):n/2^k%2=(n.testBit k).toNat:=by
 rw [Nat.testBit_eq_decide_div_mod_eq]
 have:n/2^k%2<2:=Nat.mod_lt _ (by omega)
 by_cases h:n/2^k%2=1
 ·simp [h]
 ·have:n/2^k%2=0:=by omega
  simp [this]
def ZbM (n:Nat):Nat→List Bool
 | 0=>[]
 | k+1=>ZbM n k++[n.testBit k]
def Zcr:List Bool→Nat
 | []=>0
 | b::l=>b.toNat+2*Zcr l
theorem Zaj (n:Nat):∀k,(ZbM n k).length=k
 | 0=>rfl
 | k+1=>by simp [ZbM,Zaj n k]
theorem ZeW (a b:List Bool):Zcr (a++b)=Zcr a+2^a.length*Zcr b:=by
 induction a with
 | nil=>simp [Zcr]
 | cons x l ih=>
  simp only [List.cons_append,Zcr,ih,List.length_cons,Nat.pow_succ]
  rw [Nat.mul_add,Nat.add_assoc];congr 2
  rw [←Nat.mul_assoc,Nat.mul_comm 2]
theorem Zmf (l:List Bool):Zcr l<2^l.length:=by
 induction l with
 | nil=>simp [Zcr]
 | cons x l ih=>
  simp only [Zcr,List.length_cons,Nat.pow_succ]
  have:x.toNat≤1:=by cases x<;>decide
  omega
theorem Zjp (n:Nat):∀k,Zcr (ZbM n k)=n%2^k
 | 0=>by simp [ZbM,Zcr,Nat.mod_one]
 | k+1=>by
  rw [ZbM,ZeW,Zjp n k,Zaj]
  simp only [Zcr,Nat.mul_zero,Nat.add_zero]
  rw [←Zef,Nat.mod_pow_succ]
def ZfG (l:List Bool):List Int:=(List.range ((l.length+7)/8)).map fun i=>((Zcr ((l.drop (8*i)).take 8):Nat):Int)
theorem Zdq (l:List Bool):(ZfG l).length=(l.length+7)/8:=by simp [ZfG]
theorem Zuh (l:List Bool) (i:Nat) (h:i<(l.length+7)/8):(ZfG l).getD i 0=((Zcr ((l.drop (8*i)).take 8):Nat):Int):=by
 simp [ZfG,List.getD,h]
theorem Zvz (l:List Bool) (c:Bool) (h:l.length%8=0):ZfG (l++[c])=ZfG l++[((c.toNat:Nat):Int)]:=by
 apply List.ext_getElem
 ·simp [Zdq];omega
 ·intro i h1 h2
  rw [Zdq,List.length_append,List.length_singleton] at h1
  simp only [ZfG,List.getElem_map,List.getElem_range]
  by_cases hi:i<(l.length+7)/8
  ·rw [List.getElem_append_left (by simpa using hi)]
   simp only [List.getElem_map,List.getElem_range]
   rw [List.drop_append_of_le_length (by omega),List.take_append_of_le_length (by simp;omega)]
  ·rw [List.getElem_append_right (by simp;omega)]
   have:8*i=l.length:=by omega
   rw [this,List.drop_left]
   simp [Zcr]
theorem Zvy (l:List Bool) (c:Bool) (h:l.length%8≠0) :
  ZfG (l++[c])=(ZfG l).set (l.length/8) ((ZfG l).getD (l.length/8) 0+(c.toNat*2^(l.length%8):Nat)):=by
 apply List.ext_getElem
 ·simp [Zdq];omega
 ·intro i h1 h2
  rw [Zdq,List.length_append,List.length_singleton] at h1
  have hi:i<(l.length+7)/8:=by omega
  rw [List.getElem_set]
  simp only [ZfG,List.getElem_map,List.getElem_range]
  split
  ·rename_i e
   have:=Zuh l (l.length/8) (by omega)
   unfold ZfG at this
   rw [this,←e]
   have hl:(l.drop (8*(l.length/8))).length=l.length%8:=by rw [List.length_drop];omega
   rw [List.drop_append_of_le_length (by omega),List.take_of_length_le (by simp;omega),List.take_of_length_le (by omega),ZeW,hl]
   simp only [Zcr,Nat.mul_zero,Nat.add_zero]
   rw [Nat.mul_comm (2^_)]
   omega
  ·rename_i e
   rw [List.drop_append_of_le_length (by omega),List.take_append_of_le_length (by simp;omega)]
theorem ZyX (l:List Bool) (h:l.length%8≠0):∃x:Nat,(ZfG l).getD (l.length/8) 0=(x:Int)∧x<2^(l.length%8):=by
 refine ⟨_,Zuh l _ (by omega),?_⟩
 have:=Zmf ((l.drop (8*(l.length/8))).take 8)
 have hl:((l.drop (8*(l.length/8))).take 8).length=l.length%8:=by simp;omega
 rwa [hl] at this
theorem ZwG (n k:Nat) (hn:n<9223372036854775808) (hk:k≤62):∀(m i:Nat) (l:List Bool),i+m=k→l.length+m≤100000000→
  Zfb.l0 (m+1) ((n:Int),(k:Int),(i:Int),(l.length:Int),ZfG l)=some ((((l++((ZbM n k).drop i)).length:Nat):Int),ZfG (l++((ZbM n k).drop i)))
 | 0,i,l,hi,hl=>by
  rw [Zfb.l0.succ]
  simp only [Zfb.l0.step]
  rw [ZaQ (by omega),List.drop_eq_nil_of_le (by rw [Zaj];omega)]
  simp
 | m+1,i,l,hi,hl=>by
  have ik:i<k:=by omega
  have hd:(ZbM n k).drop i=n.testBit i::(ZbM n k).drop (i+1):=by
   have e:(ZbM n k)[i]'(by rw [Zaj];exact ik)=n.testBit i:=by
    clear hi hl hk
    induction k with
    | zero=>omega
    | succ k ih=>
     simp only [ZbM]
     by_cases h:i<k
     ·rw [List.getElem_append_left (by rw [Zaj];exact h)];exact ih h
     ·have:i=k:=by omega
      subst this
      rw [List.getElem_append_right (by rw [Zaj];omega)]
      simp
   rw [List.drop_eq_getElem_cons (by rw [Zaj];exact ik),e]
  have ih:=ZwG n k hn hk m (i+1) (l++[n.testBit i]) (by omega) (by simp;omega)
  rw [Zfb.l0.succ]
  simp only [Zfb.l0.step]
  rw [ZaP ik,cond_true]
  have hmod:((l.length:Int)).tmod 8=((l.length%8:Nat):Int):=by rw [ZaG (by omega)];omega
  have hdiv:((l.length:Int)).tdiv 8=((l.length/8:Nat):Int):=by rw [ZaF (by omega)];omega
  have hbit:ZkR .i64 (Zm4 .i64 (n:Int) (i:Int)) 1=(((n.testBit i).toNat:Nat):Int):=by
   rw [Ze9 n i (by omega),Zl3 _ (Nat.lt_of_le_of_lt (Nat.div_le_self _ _) hn),Zef]
  have hc:(n.testBit i).toNat≤1:=by cases n.testBit i<;>decide
  have hp:2^(l.length%8)≤2^7:=Nat.pow_le_pow_right (by omega) (by omega)
  have hle:(n.testBit i).toNat*2^(l.length%8)≤128:=by
   calc _≤1*2^7:=Nat.mul_le_mul hc hp
    _=128:=by decide
  have hshl:Zr2 .i64 (((n.testBit i).toNat:Nat):Int) ((l.length%8:Nat):Int)=(((n.testBit i).toNat*2^(l.length%8):Nat):Int):=ZeH _ _ (by omega) (by omega)
  have hwr:IntKind.wrap .u8 (((n.testBit i).toNat*2^(l.length%8):Nat):Int)=(((n.testBit i).toNat*2^(l.length%8):Nat):Int):=by
   rw [show IntKind.wrap .u8 (((n.testBit i).toNat*2^(l.length%8):Nat):Int)=(((n.testBit i).toNat*2^(l.length%8):Nat):Int)%256 by simp [IntKind.wrap,IntKind.bits,IntKind.signed]]
   omega
  simp only [hmod]
  by_cases h0:l.length%8=0
  ·have e0:(((l.length%8:Nat):Int)==0)=true:=by simp [h0]
   simp only [e0,cond_true]
   rw [Zab _ (Ze5 (by simp [Zdq];omega))]
   simp only [Zae,hmod,hdiv,hbit,hshl,hwr]
   have hlt:l.length/8<(ZfG l++[0]).length:=by rw [List.length_append,Zdq];simp;omega
   have hat:l.length/8=(ZfG l).length:=by rw [Zdq];omega
   ((try simp (disch:=omega) only [Zas,Zaq,Zal,Zad,ZaD,Za8,Zaf,ZaG,ZaF,Zae,Option.map_some,cond_true,cond_false,Int.sub_zero,Int.toNat_natCast]);(try simp only [ZbG,Zen,Zes,ZaE,ZbU,if_true,if_false]))
   rw [hat,List.getD_eq_getElem?_getD,List.getElem?_concat_length,Option.getD_some,←hat]
   have hz:ior .u8 0 (((n.testBit i).toNat*2^(l.length%8):Nat):Int)=(((n.testBit i).toNat:Nat):Int):=by
    have:=Zz1 0 ((n.testBit i).toNat*2^(l.length%8)) (by omega) (by omega)
    rw [show ((0:Nat):Int)=0 from rfl] at this
    rw [this,Nat.zero_or,h0];simp
   rw [hz,hat,List.set_append_right _ _ (Nat.le_refl _),Nat.sub_self,List.set_cons_zero,←Zvz l _ h0]
   rw [show ((i:Int)+1)=((i+1:Nat):Int) by omega,show ((l.length:Int)+1)=(((l++[n.testBit i]).length:Nat):Int) by simp]
   rw [ih,hd,List.append_assoc];rfl
  ·have e0:(((l.length%8:Nat):Int)==0)=false:=by simp;omega
   simp only [e0,cond_false,Zae,hmod,hdiv,hbit,hshl,hwr]
   have hlt:l.length/8<(ZfG l).length:=by rw [Zdq];omega
   obtain ⟨x,hx,hxl⟩:=ZyX l h0
   have hx8:x<128:=Nat.lt_of_lt_of_le hxl hp
   ((try simp (disch:=omega) only [Zas,Zaq,Zal,Zad,ZaD,Za8,Zaf,ZaG,ZaF,Zae,Option.map_some,cond_true,cond_false,Int.sub_zero,Int.toNat_natCast]);(try simp only [ZbG,Zen,Zes,ZaE,ZbU,if_true,if_false]))
   rw [hx]
   rw [Zz1 x _ (by omega) (by omega),Zlx x _ _ hxl]
   have:=Zvy l (n.testBit i) h0
   rw [hx] at this
   rw [show (((x+(n.testBit i).toNat*2^(l.length%8):Nat)):Int)=(x:Int)+(((n.testBit i).toNat*2^(l.length%8):Nat):Int) by omega,←this]
   rw [show ((i:Int)+1)=((i+1:Nat):Int) by omega,show ((l.length:Int)+1)=(((l++[n.testBit i]).length:Nat):Int) by simp]
   rw [ih,hd,List.append_assoc];rfl
theorem ZeV (n k:Nat) (hn:n<9223372036854775808) (hk:k≤62) (l:List Bool) (hl:l.length≤90000000) :
  Zfb (n:Int) (k:Int) (l.length:Int) (ZfG l)=some ((((l++ZbM n k).length:Nat):Int),ZfG (l++ZbM n k)):=by
 unfold Zfb
 have:=ZwG n k hn hk k 0 l (by omega) (by omega)
 rw [ZaA,show (0:Int)=((0:Nat):Int) from rfl,this]
 simp
end Ev
end
section
namespace Ev
open Go
theorem Zjx (n:Nat):∀(k i:Nat) (h:i<k),(ZbM n k)[i]'(by rw [Zaj];exact h)=n.testBit i
 | 0,i,h=>by omega
 | k+1,i,h=>by
  simp only [ZbM]
  by_cases hi:i<k
  ·rw [List.getElem_append_left (by rw [Zaj];exact hi)];exact Zjx n k i hi
  ·have:i=k:=by omega
   subst this
   rw [List.getElem_append_right (by rw [Zaj];omega)]
   simp
theorem ZuE:∀(m:Nat) (o:Nat),m≤62→o*2^m<9223372036854775808→ZcT.l0 (m+1) ((m:Int),(o:Int))=some ((o*2^m:Nat):Int)
 | 0,o,hm,h=>by
  rw [ZcT.l0.succ];simp only [ZcT.l0.step]
  ((try simp (disch:=omega) only [Zas,Zaq,Zal,Zad,ZaD,Za8,Zaf,ZaG,ZaF,Zae,Option.map_some,cond_true,cond_false,Int.sub_zero,Int.toNat_natCast]);(try simp only [ZbG,Zen,Zes,ZaE,ZbU,if_true,if_false]))
  rw [if_neg (by omega)];simp
 | m+1,o,hm,h=>by
  have h2:o*2^(m+1)=2*o*2^m:=by rw [Nat.pow_succ,Nat.mul_comm (2^m) 2,←Nat.mul_assoc,Nat.mul_comm o 2]
  have hle:2*o≤2*o*2^m:=Nat.le_mul_of_pos_right _ (Nat.two_pow_pos m)
  rw [ZcT.l0.succ];simp only [ZcT.l0.step]
  ((try simp (disch:=omega) only [Zas,Zaq,Zal,Zad,ZaD,Za8,Zaf,ZaG,ZaF,Zae,Option.map_some,cond_true,cond_false,Int.sub_zero,Int.toNat_natCast]);(try simp only [ZbG,Zen,Zes,ZaE,ZbU,if_true,if_false]))
  rw [if_pos (by omega),show (((m+1:Nat):Int)-1)=(m:Int) by omega,show (2*(o:Int))=((2*o:Nat):Int) by omega,ZuE m (2*o) (by omega) (by omega),h2]
theorem Zir (n:Nat) (hn:n≤62):ZcT (n:Int)=some ((2^n:Nat):Int):=by
 unfold ZcT
 have hp:2^n≤2^62:=Nat.pow_le_pow_right (by omega) hn
 have:=ZuE n 1 hn (by omega)
 rw [show ((n:Int)-0).toNat+1=n+1 by omega,show (1:Int)=((1:Nat):Int) from rfl,this,Nat.one_mul]
 rfl
def oT (l:List Bool):List Int:=(List.range (l.length/8)).map fun i=>((Zcr ((l.drop (8*i)).take 8):Nat):Int)
def oL (l:List Bool):Nat:=Zcr (l.drop (8*(l.length/8)))
theorem oL_lt (l:List Bool):oL l<2^(l.length%8):=by
 have:=Zmf (l.drop (8*(l.length/8)))
 have hl:(l.drop (8*(l.length/8))).length=l.length%8:=by rw [List.length_drop];omega
 rwa [hl] at this
theorem Zw8 (l:List Bool):(oT l).length=l.length/8:=by simp [oT]
theorem ZAr (l:List Bool) (c:Bool) (h:l.length%8≠7):oL (l++[c])=oL l+c.toNat*2^(l.length%8):=by
 unfold oL
 have e:(l++[c]).length/8=l.length/8:=by simp;omega
 have hl:(l.drop (8*(l.length/8))).length=l.length%8:=by rw [List.length_drop];omega
 rw [e,List.drop_append_of_le_length (by omega),ZeW,hl]
 simp only [Zcr,Nat.mul_zero,Nat.add_zero]
 rw [Nat.mul_comm (2^_)]
theorem ZAp (l:List Bool) (c:Bool) (h:l.length%8≠7):oT (l++[c])=oT l:=by
 unfold oT
 have e:(l++[c]).length/8=l.length/8:=by simp;omega
 rw [e]
 apply List.map_congr_left
 intro i hi
 have:=List.mem_range.1 hi
 rw [List.drop_append_of_le_length (by omega),List.take_append_of_le_length (by simp;omega)]
theorem ZAq (l:List Bool) (c:Bool) (h:l.length%8=7):oT (l++[c])=oT l++[((oL l+c.toNat*2^(l.length%8):Nat):Int)]∧oL (l++[c])=0:=by
 have e:(l++[c]).length/8=l.length/8+1:=by simp;omega
 have hl:(l.drop (8*(l.length/8))).length=l.length%8:=by rw [List.length_drop];omega
 constructor
 ·unfold oT oL
  rw [e,List.range_succ,List.map_append,List.map_singleton]
  congr 1
  ·apply List.map_congr_left
   intro i hi
   have:=List.mem_range.1 hi
   rw [List.drop_append_of_le_length (by omega),List.take_append_of_le_length (by simp;omega)]
  ·rw [List.drop_append_of_le_length (by omega),List.take_of_length_le (by simp;omega),ZeW,hl]
   simp only [Zcr,Nat.mul_zero,Nat.add_zero]
   rw [Nat.mul_comm (2^_)]
 ·unfold oL
  rw [e,List.drop_eq_nil_of_le (by simp;omega)];rfl
theorem Zw9 (n k:Nat) (hn:n<4611686018427387904) (hk:k≤1000):∀(m i:Nat) (l:List Bool),i+m=k→l.length+m≤100000000→
  Zel.l0 (m+1) (((n/2^i:Nat):Int),(k:Int),(i:Int),(oL l:Int),((l.length%8:Nat):Int),oT l) =
   some ((oL (l++(ZbM n k).drop i):Int),(((l++(ZbM n k).drop i).length%8:Nat):Int),oT (l++(ZbM n k).drop i))
 | 0,i,l,hi,hl=>by
  rw [Zel.l0.succ];simp only [Zel.l0.step]
  rw [ZaQ (by omega),List.drop_eq_nil_of_le (by rw [Zaj];omega)]
  simp
 | m+1,i,l,hi,hl=>by
  have ik:i<k:=by omega
  have hd:(ZbM n k).drop i=n.testBit i::(ZbM n k).drop (i+1):=by
   rw [List.drop_eq_getElem_cons (by rw [Zaj];exact ik),Zjx n k i ik]
  have ih:=Zw9 n k hn hk m (i+1) (l++[n.testBit i]) (by omega) (by simp;omega)
  have hL:=oL_lt l
  have hp:2^(l.length%8)≤2^7:=Nat.pow_le_pow_right (by omega) (by omega)
  have hc:(n.testBit i).toNat≤1:=by cases n.testBit i<;>decide
  have hle:(n.testBit i).toNat*2^(l.length%8)≤1*2^(l.length%8):=Nat.mul_le_mul_right _ hc
  have hdn:n/2^i≤n:=Nat.div_le_self _ _
  have hbit:(((n/2^i:Nat):Int)).tmod 2=(((n.testBit i).toNat:Nat):Int):=by
   rw [ZaG (Int.natCast_nonneg _),←Zef];exact (Int.natCast_emod _ 2).symm
  have hhalf:(((n/2^i:Nat):Int)).tdiv 2=((n/2^(i+1):Nat):Int):=by
   rw [ZaF (Int.natCast_nonneg _),Nat.pow_succ,←Nat.div_div_eq_div_mul];exact (Int.natCast_ediv _ 2).symm
  rw [Zel.l0.succ];simp only [Zel.l0.step]
  rw [ZaP ik,cond_true,Zir _ (by omega)]
  simp only [Zae,hbit,hhalf]
  rw [show (((n.testBit i).toNat:Nat):Int)*((2^(l.length%8):Nat):Int)=(((n.testBit i).toNat*2^(l.length%8):Nat):Int) by rw [Int.natCast_mul]]
  have hdn2:n/2^(i+1)≤n:=Nat.div_le_self _ _
  have hw:w64 ((n/2^(i+1):Nat):Int)=((n/2^(i+1):Nat):Int):=by
   generalize n/2^(i+1)=q at hdn2 ⊢
   exact Zaf (by omega) (by omega)
  simp only [hw]
  by_cases h7:l.length%8=7
  ·obtain ⟨f1,f2⟩:=ZAq l (n.testBit i) h7
   have e8:((((l.length%8:Nat):Int)+1)==8)=true:=by simp;omega
   ((try simp (disch:=omega) only [Zas,Zaq,Zal,Zad,ZaD,Za8,Zaf,ZaG,ZaF,Zae,Option.map_some,cond_true,cond_false,Int.sub_zero,Int.toNat_natCast,e8]);(try simp only [ZbG,Zen,Zes,ZaE,ZbU,if_true,if_false,e8]))
   rw [Zab _ (Ze5 (by simp [Zw8];omega))]
   have hwr:IntKind.wrap .u8 ((oL l:Int)+(((n.testBit i).toNat*2^(l.length%8):Nat):Int))=(((oL l+(n.testBit i).toNat*2^(l.length%8):Nat)):Int):=by
    rw [show IntKind.wrap .u8 ((oL l:Int)+(((n.testBit i).toNat*2^(l.length%8):Nat):Int))=((oL l:Int)+(((n.testBit i).toNat*2^(l.length%8):Nat):Int))%256 by simp [IntKind.wrap,IntKind.bits,IntKind.signed]]
    omega
   rw [hwr,←f1]
   have hm:(l++[n.testBit i]).length%8=0:=by simp;omega
   rw [f2,hm] at ih
   rw [show ((i:Int)+1)=((i+1:Nat):Int) by omega]
   rw [show (0:Int)=((0:Nat):Int) from rfl,ih,hd,List.append_assoc];rfl
  ·have e8:((((l.length%8:Nat):Int)+1)==8)=false:=by simp;omega
   ((try simp (disch:=omega) only [Zas,Zaq,Zal,Zad,ZaD,Za8,Zaf,ZaG,ZaF,Zae,Option.map_some,cond_true,cond_false,Int.sub_zero,Int.toNat_natCast,e8]);(try simp only [ZbG,Zen,Zes,ZaE,ZbU,if_true,if_false,e8]))
   have hm:(l++[n.testBit i]).length%8=l.length%8+1:=by simp;omega
   rw [ZAr l _ h7,ZAp l _ h7,hm] at ih
   rw [show ((i:Int)+1)=((i+1:Nat):Int) by omega,show (((l.length%8:Nat):Int)+1)=((l.length%8+1:Nat):Int) by omega,
    show (oL l:Int)+(((n.testBit i).toNat*2^(l.length%8):Nat):Int)=(((oL l+(n.testBit i).toNat*2^(l.length%8):Nat)):Int) by omega]
   rw [ih,hd,List.append_assoc];rfl
theorem ZeB (n k:Nat) (hn:n<4611686018427387904) (hk:k≤1000) (l:List Bool) (hl:l.length+k≤90000000) :
  Zel (n:Int) (k:Int) (oL l:Int) ((l.length%8:Nat):Int) (oT l)=some ((oL (l++ZbM n k):Int),(((l++ZbM n k).length%8:Nat):Int),oT (l++ZbM n k)):=by
 unfold Zel
 have:=Zw9 n k hn hk k 0 l (by omega) (by omega)
 rw [ZaA]
 simp only [Nat.pow_zero,Nat.div_one,List.drop_zero] at this
 rw [show (0:Int)=((0:Nat):Int) from rfl,this]
 rfl
theorem Zrm:∀k,ZbM 0 k=List.replicate k false
 | 0=>rfl
 | k+1=>by rw [ZbM,Zrm k,List.replicate_succ'];simp
def ZiE (l:List Bool):List Bool:=l++List.replicate ((8-l.length%8)%8) false
theorem Zgt (l:List Bool):(ZiE l).length=8*((l.length+7)/8):=by simp [ZiE];omega
theorem Zjv (l:List Bool):ZfG l=oT (ZiE l)∧ZfG (ZiE l)=ZfG l:=by
 have key:∀i,Zcr (((ZiE l).drop (8*i)).take 8)=Zcr ((l.drop (8*i)).take 8):=fun i=>by
  have z:∀k,Zcr (List.replicate k false)=0:=fun k=>by induction k with
   | zero=>rfl
   | succ k ih=>rw [List.replicate_succ];simp [Zcr,ih]
  have vt:∀(a b:List Bool) k,Zcr b=0→(∀j,Zcr (b.take j)=0)→Zcr ((a++b).take k)=Zcr (a.take k):=fun a b k h1 h2=>by
   rw [List.take_append,ZeW,h2];simp
  unfold ZiE
  by_cases h:8*i≤l.length
  ·rw [List.drop_append_of_le_length h]
   exact vt _ _ _ (z _) (fun j=>by rw [List.take_replicate];exact z _)
  ·rw [List.drop_eq_nil_of_le (by omega:l.length≤8*i),List.drop_append,List.drop_eq_nil_of_le (by omega:l.length≤8*i),List.nil_append,List.drop_replicate,List.take_replicate,z];rfl
 constructor
 ·unfold ZfG oT
  rw [Zgt,show 8*((l.length+7)/8)/8=(l.length+7)/8 by omega]
  exact List.map_congr_left fun i _=>by rw [key]
 ·unfold ZfG
  rw [Zgt,show (8*((l.length+7)/8)+7)/8=(l.length+7)/8 by omega]
  exact List.map_congr_left fun i _=>by rw [key]
theorem Zrk (l:List Bool) (hl:l.length≤80000000):ZdJ (oL l:Int) ((l.length%8:Nat):Int) (oT l)=some ((oL (ZiE l):Int),0,ZfG l):=by
 unfold ZdJ
 ((try simp (disch:=omega) only [Zas,Zaq,Zal,Zad,ZaD,Za8,Zaf,ZaG,ZaF,Zae,Option.map_some,cond_true,cond_false,Int.sub_zero,Int.toNat_natCast]);(try simp only [ZbG,Zen,Zes,ZaE,ZbU,if_true,if_false]))
 by_cases h:l.length%8=0
 ·rw [if_neg (by omega)]
  have e:ZiE l=l:=by unfold ZiE;rw [h];simp
  rw [(Zjv l).1,e,h];rfl
 ·rw [if_pos (by omega),show (8-((l.length%8:Nat):Int))=((8-l.length%8:Nat):Int) by omega,show (0:Int)=((0:Nat):Int) from rfl,ZeB 0 _ (by omega) (by omega) l (by omega)]
  simp only [Zae,Zrm]
  have e:l++List.replicate (8-l.length%8) false=ZiE l:=by unfold ZiE;rw [Nat.mod_eq_of_lt (by omega:8-l.length%8<8)]
  rw [e,(Zjv l).1,Zgt]
  simp
def Zpx (n k:Nat):Nat:=Zcr (ZbM n k).reverse
theorem ZqN (n k:Nat):Zpx n (k+1)=2*Zpx n k+n/2^k%2:=by
 unfold Zpx
 rw [ZbM,List.reverse_append]
 simp only [List.reverse_cons,List.reverse_nil,List.nil_append,List.singleton_append,Zcr]
 rw [Zef];omega
theorem Zpw (n k:Nat):Zpx n k<2^k:=by
 have:=Zmf (ZbM n k).reverse
 rwa [List.length_reverse,Zaj] at this
theorem ZnL (n k:Nat) (hn:n<9223372036854775808) (hk:k≤60):∀(m i:Nat),i+m=k→ZbC.l0 (m+1) ((n:Int),(Zpx n i:Int),(k:Int),(i:Int))=some (Zpx n k:Int)
 | 0,i,hi=>by
  rw [ZbC.l0.succ];simp only [ZbC.l0.step]
  rw [ZaQ (by omega)]
  have:i=k:=by omega
  subst this;rfl
 | m+1,i,hi=>by
  have ht:=Zpw n i
  have hp:2^i≤2^60:=Nat.pow_le_pow_right (by omega) (by omega)
  have hm:n/2^i%2<2:=Nat.mod_lt _ (by omega)
  rw [ZbC.l0.succ];simp only [ZbC.l0.step]
  rw [ZaP (by omega),cond_true,Ze9 n i (by omega),Zl3 _ (Nat.lt_of_le_of_lt (Nat.div_le_self _ _) hn)]
  ((try simp (disch:=omega) only [Zas,Zaq,Zal,Zad,ZaD,Za8,Zaf,ZaG,ZaF,Zae,Option.map_some,cond_true,cond_false,Int.sub_zero,Int.toNat_natCast]);(try simp only [ZbG,Zen,Zes,ZaE,ZbU,if_true,if_false]))
  rw [show 2*(Zpx n i:Int)+((n/2^i%2:Nat):Int)=(Zpx n (i+1):Int) by rw [ZqN];omega,show ((i:Int)+1)=((i+1:Nat):Int) by omega]
  exact ZnL n k hn hk m (i+1) (by omega)
theorem ZdU (n a b:Int):Zbx n a b=some (decide (a≤n∧n≤b)):=by
 unfold Zbx
 by_cases h1:n≥a<;>by_cases h2:n≤b<;>simp [h1,h2]<;>omega
theorem Zl1 (n a b:Int):ZhI n a b=some (decide (a≤n∧n≤b)):=ZdU n a b
theorem Zvx (n k:Nat) (hk:k≤16) (hn:n<2^k):ZeA (n:Int) (k:Int)=some true:=by
 unfold ZeA
 have hp:2^k≤2^16:=Nat.pow_le_pow_right (by omega) hk
 rw [ZdU]
 simp only [Zae]
 have h1:decide ((0:Int)≤(k:Int)∧(k:Int)≤16)=true:=by simp;omega
 have:=ZeH 1 k (by omega) (by omega)
 rw [show ((1:Nat):Int)=1 from rfl] at this
 rw [h1,cond_true,this]
 ((try simp (disch:=omega) only [Zas,Zaq,Zal,Zad,ZaD,Za8,Zaf,ZaG,ZaF,Zae,Option.map_some,cond_true,cond_false,Int.sub_zero,Int.toNat_natCast]);(try simp only [ZbG,Zen,Zes,ZaE,ZbU,if_true,if_false]))
 rw [ZdU]
 have h2:decide ((0:Int)≤(n:Int)∧(n:Int)≤((1*2^k:Nat):Int)-1)=true:=by
  rw [decide_eq_true_eq];omega
 rw [h2];rfl
theorem ZtS (n k:Nat) (hk:k≤16) (hn:n<2^k):ZbC (n:Int) (k:Int)=some (Zpx n k:Int):=by
 have hp:2^k≤2^16:=Nat.pow_le_pow_right (by omega) hk
 unfold ZbC
 rw [Zvx n k hk hn]
 simp only [Zae,Bool.not_true,cond_false]
 have:=ZnL n k (by omega) (by omega) k 0 (by omega)
 rw [ZaA]
 rw [show (Zpx n 0:Int)=0 from rfl,show ((0:Nat):Int)=0 from rfl] at this
 rw [this];rfl
theorem ZrW (n k:Nat) (hn:n<4611686018427387904) (hk:k≤60):∀(m i:Nat),i+m=k→Zdh.l0 (m+1) (((n/2^i:Nat):Int),(k:Int),(Zpx n i:Int),(i:Int))=some (Zpx n k:Int)
 | 0,i,hi=>by
  rw [Zdh.l0.succ];simp only [Zdh.l0.step]
  rw [ZaQ (by omega)]
  have:i=k:=by omega
  subst this;rfl
 | m+1,i,hi=>by
  have ht:=Zpw n i
  have hp:2^i≤2^60:=Nat.pow_le_pow_right (by omega) (by omega)
  have hm:n/2^i%2<2:=Nat.mod_lt _ (by omega)
  have hdn:n/2^i≤n:=Nat.div_le_self _ _
  have hts:Zpx n (i+1)=2*Zpx n i+n/2^i%2:=ZqN n i
  have hq:n/2^(i+1)=n/2^i/2:=by rw [Nat.pow_succ,←Nat.div_div_eq_div_mul]
  have ih:=ZrW n k hn hk m (i+1) (by omega)
  rw [hq] at ih
  rw [Zdh.l0.succ];simp only [Zdh.l0.step]
  rw [ZaP (by omega),cond_true]
  generalize n/2^i=q at *
  ((try simp (disch:=omega) only [Zas,Zaq,Zal,Zad,ZaD,Za8,Zaf,ZaG,ZaF,Zae,Option.map_some,cond_true,cond_false,Int.sub_zero,Int.toNat_natCast]);(try simp only [ZbG,Zen,Zes,ZaE,ZbU,if_true,if_false]))
  rw [show 2*(Zpx n i:Int)+(q:Int)%2=(Zpx n (i+1):Int) by omega,show ((i:Int)+1)=((i+1:Nat):Int) by omega,
   show (q:Int)/2=((q/2:Nat):Int) by omega]
  exact ih
theorem ZxL (n k:Nat) (hn:n<4611686018427387904) (hk:k≤60):Zdh (n:Int) (k:Int)=some (Zpx n k:Int):=by
 unfold Zdh
 have:=ZrW n k hn hk k 0 (by omega)
 rw [ZaA]
 simp only [Nat.pow_zero,Nat.div_one] at this
 rw [show (Zpx n 0:Int)=0 from rfl,show ((0:Nat):Int)=0 from rfl] at this
 rw [this];rfl
def msb (c k:Nat):List Bool:=(ZbM c k).reverse
theorem Zrn:∀(l:List Bool),ZbM (Zcr l) l.length=l:=by
 intro l
 apply List.ext_getElem
 ·rw [Zaj]
 ·intro i h1 h2
  rw [Zjx _ _ _ h2]
  induction l generalizing i with
  | nil=>simp at h2
  | cons b l ih=>
   cases i with
   | zero=>
    simp only [Zcr,List.getElem_cons_zero]
    rw [Nat.testBit_zero]
    cases b<;>simp<;>omega
   | succ i=>
    simp only [Zcr,List.getElem_cons_succ]
    rw [Nat.testBit_succ,show (b.toNat+2*Zcr l)/2=Zcr l by cases b<;>simp<;>omega]
    exact ih i (by rw [Zaj];simpa using h2) (by simpa using h2)
theorem Zro (n k:Nat):ZbM (Zpx n k) k=msb n k:=by
 have:=Zrn (ZbM n k).reverse
 rw [List.length_reverse,Zaj] at this
 exact this
end Ev
end
section
namespace Ev
open Go
def ZcQ:Str→List Bool
 | []=>[]
 | c::s=>ZbM c.toNat 8++ZcQ s
theorem Zc3:∀s:Str,(ZcQ s).length=8*s.length
 | []=>rfl
 | c::s=>by simp [ZcQ,Zaj,Zc3 s];omega
theorem Zj7:∀s t:Str,ZcQ (s++t)=ZcQ s++ZcQ t
 | [],t=>rfl
 | c::s,t=>by simp [ZcQ,Zj7 s t]
theorem Zpn:∀(s:Str) (n:Nat) (h:n<8*s.length),(ZcQ s)[n]'(by rw [Zc3];exact h)=((s.getD (n/8) 0).toNat).testBit (n%8)
 | [],n,h=>by simp at h
 | c::s,n,h=>by
  simp only [ZcQ]
  by_cases h8:n<8
  ·rw [List.getElem_append_left (by rw [Zaj];exact h8),Zjx _ _ _ h8,show n/8=0 by omega,show n%8=n by omega];rfl
  ·rw [List.getElem_append_right (by rw [Zaj];omega)]
   simp only [Zaj]
   have:=Zpn s (n-8) (by simp at h;omega)
   rw [this,show n/8=(n-8)/8+1 by omega,show (n-8)%8=n%8 by omega];rfl
def Rs (s:Str) (at_:Int) (bad:Bool):Option (List Bool)→Prop
 | some l=>bad=false∧∃n:Nat,at_=(n:Int)∧n≤8*s.length∧(ZcQ s).drop n=l
 | none=>bad=true∧∃n:Nat,at_=(n:Int)∧n≤8*s.length
theorem Rs.at {s:Str} {at_:Int} {bad:Bool} {m:Option (List Bool)} (h:Rs s at_ bad m):∃n:Nat,at_=(n:Int)∧n≤8*s.length:=by
 cases m with
 | none=>exact h.2
 | some l=>obtain ⟨_,n,a,b,_⟩:=h;exact ⟨n,a,b⟩
theorem Rs.fail {s:Str} {at_:Int} {bad:Bool} {m:Option (List Bool)} (h:Rs s at_ bad m):Rs s at_ true none:=⟨rfl,h.at⟩
theorem Rs.len {s:Str} {at_:Int} {bad:Bool} {l:List Bool} (h:Rs s at_ bad (some l)):at_=((8*s.length-l.length:Nat):Int)∧l.length≤8*s.length:=by
 obtain ⟨_,n,a,b,c⟩:=h
 have:=congrArg List.length c
 rw [List.length_drop,Zc3] at this
 omega
theorem Rs.start (s:Str):Rs s 0 false (some (ZcQ s)):=⟨rfl,0,rfl,by omega,rfl⟩
def Zoj:Option (List Bool)→Option (List Bool)
 | some (_::l)=>some l
 | _=>none
def ZyA (s:Str) (m:Option (List Bool)) (r:Int×Str×Int×Bool):Prop:=
 r.2.1=s∧∃b:Bool,r.1=((b.toNat:Nat):Int)∧Rs s r.2.2.1 r.2.2.2 (Zoj m)∧∀c l,m=some (c::l)→b=c
theorem Ztf (s:Str) (n:Nat) (bad:Bool) (hs:s.length≤1000000000) (hlt:n<8*s.length) :
  Zi1 s (n:Int) bad=some (((((s.getD (n/8) 0).toNat.testBit (n%8)).toNat:Nat):Int),s,((n+1:Nat):Int),bad):=by
 unfold Zi1
 have hmod:((n:Int)).tmod 8=((n%8:Nat):Int):=by rw [ZaG (by omega)];omega
 have hdiv:((n:Int)).tdiv 8=((n/8:Nat):Int):=by rw [ZaF (by omega)];omega
 simp only [hmod,hdiv]
 ((try simp (disch:=omega) only [Zas,Zaq,Zal,Zad,ZaD,Za8,Zaf,ZaG,ZaF,Zae,Option.map_some,cond_true,cond_false,Int.sub_zero,Int.toNat_natCast]);(try simp only [ZbG,Zen,Zes,ZaE,ZbU,if_true,if_false]))
 rw [if_neg (by omega)]
 have hc:(s.getD (n/8) 0).toNat<256:=(s.getD (n/8) 0).toNat_lt
 have hbit:ZkR .i64 (Zm4 .i64 (w64 (((s.getD (n/8) 0).toNat:Nat):Int)) ((n%8:Nat):Int)) 1=((((s.getD (n/8) 0).toNat.testBit (n%8)).toNat:Nat):Int):=by
  rw [Zaf (by omega) (by omega),Ze9 _ _ (by omega),Zl3 _ (Nat.lt_of_le_of_lt (Nat.div_le_self _ _) (by omega)),Zef]
 rw [hbit,show ((n:Int)+1)=((n+1:Nat):Int) by omega]
theorem ZkB {s:Str} {at_:Int} {bad:Bool} {m:Option (List Bool)} (hs:s.length≤1000000000) (h:Rs s at_ bad m):Ret (Zi1 s at_ bad) (ZyA s m):=by
 obtain ⟨n,rfl,hn⟩:=h.at
 unfold Zi1
 by_cases hlt:n<8*s.length
 ·have hb0:=Ztf s n bad hs hlt
  unfold Zi1 at hb0
  rw [hb0]
  refine .pure ⟨rfl,_,rfl,?_,?_⟩
  ·cases m with
   | none=>exact ⟨h.1,n+1,rfl,by omega⟩
   | some l=>
    obtain ⟨hb,n',e,_,hd⟩:=h
    have:n'=n:=by omega
    subst this
    rw [List.drop_eq_getElem_cons (by rw [Zc3];exact hlt)] at hd
    subst hd
    exact ⟨hb,n'+1,rfl,by omega,rfl⟩
  ·rintro c l rfl
   obtain ⟨hb,n',e,_,hd⟩:=h
   have:n'=n:=by omega
   subst this
   rw [List.drop_eq_getElem_cons (by rw [Zc3];exact hlt),Zpn s n' hlt] at hd
   exact (List.cons.inj hd).1
 ·((try simp (disch:=omega) only [Zas,Zaq,Zal,Zad,ZaD,Za8,Zaf,ZaG,ZaF,Zae,Option.map_some,cond_true,cond_false,Int.sub_zero,Int.toNat_natCast]);(try simp only [ZbG,Zen,Zes,ZaE,ZbU,if_true,if_false]))
  rw [if_pos (by omega)]
  refine .pure ⟨rfl,false,rfl,?_,?_⟩
  ·cases m with
   | none=>exact ⟨rfl,n,rfl,hn⟩
   | some l=>
    have:=h.len
    have:l=[]:=List.length_eq_zero_iff.1 (by omega)
    subst this
    exact ⟨rfl,n,rfl,hn⟩
  ·rintro c l rfl
   have:=h.len
   simp at this;omega
theorem ZwR (s:Str) (n:Nat) (bad:Bool) (hs:s.length≤1000000000) (hn:n≤8*s.length):Zkv s (n:Int) bad=Zi1 s (n:Int) bad:=by
 unfold Zkv Zi1
 have hmod:((n:Int)).tmod 8=((n%8:Nat):Int):=by rw [ZaG (by omega)];omega
 have hdiv:((n:Int)).tdiv 8=((n/8:Nat):Int):=by rw [ZaF (by omega)];omega
 simp only [hmod,hdiv]
 by_cases hlt:n<8*s.length
 ·((try simp (disch:=omega) only [Zas,Zaq,Zal,Zad,ZaD,Za8,Zaf,ZaG,ZaF,Zae,Option.map_some,cond_true,cond_false,Int.sub_zero,Int.toNat_natCast]);(try simp only [ZbG,Zen,Zes,ZaE,ZbU,if_true,if_false]))
  rw [if_neg (by omega),if_neg (by omega),Zir _ (by omega)]
  have hc:(s.getD (n/8) 0).toNat<256:=(s.getD (n/8) 0).toNat_lt
  have hp:=Nat.two_pow_pos (n%8)
  rw [Zaf (by omega) (by omega),Ze9 _ _ (by omega),Zl3 _ (Nat.lt_of_le_of_lt (Nat.div_le_self _ _) (by omega))]
  simp only [Zae]
  rw [Zab _ (by
   simp only [bne_iff_ne,ne_eq];intro h0;have h0:2^(n%8)=0:=by exact_mod_cast h0
   rw [h0] at hp;exact absurd hp (by omega))]
  have hle:(s.getD (n/8) 0).toNat/2^(n%8)≤(s.getD (n/8) 0).toNat:=Nat.div_le_self _ _
  rw [ZaF (Int.natCast_nonneg _),←Int.natCast_ediv]
  generalize (s.getD (n/8) 0).toNat/2^(n%8)=q at *
  ((try simp (disch:=omega) only [Zas,Zaq,Zal,Zad,ZaD,Za8,Zaf,ZaG,ZaF,Zae,Option.map_some,cond_true,cond_false,Int.sub_zero,Int.toNat_natCast]);(try simp only [ZbG,Zen,Zes,ZaE,ZbU,if_true,if_false]))
  rfl
 ·((try simp (disch:=omega) only [Zas,Zaq,Zal,Zad,ZaD,Za8,Zaf,ZaG,ZaF,Zae,Option.map_some,cond_true,cond_false,Int.sub_zero,Int.toNat_natCast]);(try simp only [ZbG,Zen,Zes,ZaE,ZbU,if_true,if_false]))
  rw [if_pos (by omega),if_pos (by omega)]
theorem Zs8 {s:Str} {at_:Int} {bad:Bool} {m:Option (List Bool)} (hs:s.length≤1000000000) (h:Rs s at_ bad m):Ret (Zkv s at_ bad) (ZyA s m):=by
 obtain ⟨n,rfl,hn⟩:=h.at
 rw [ZwR s n bad hs hn];exact ZkB hs h
def ZbN (k:Nat):Option (List Bool)→Option (List Bool)
 | some l=>if k≤l.length then some (l.drop k) else none
 | none=>none
def Zqy (s:Str) (k:Nat) (m:Option (List Bool)) (r:Int×Str×Int×Bool):Prop:=
 r.2.1=s∧(∃v:Nat,r.1=(v:Int)∧v<2^k∧∀l,m=some l→k≤l.length→v=Zcr (l.take k))∧Rs s r.2.2.1 r.2.2.2 (ZbN k m)
theorem Zrt (m:Option (List Bool)):ZbN 0 m=m:=by cases m<;>simp [ZbN]
theorem Zru (k:Nat) (m:Option (List Bool)):ZbN (k+1) m=Zoj (ZbN k m):=by
 cases m with
 | none=>rfl
 | some l=>
  simp only [ZbN]
  by_cases h:k+1≤l.length
  ·rw [if_pos h,if_pos (by omega),List.drop_eq_getElem_cons (by omega:k<l.length)];rfl
  ·rw [if_neg h]
   by_cases h2:k≤l.length
   ·rw [if_pos h2,List.drop_eq_nil_of_le (by omega)];rfl
   ·rw [if_neg h2];rfl
theorem ZiF (l:List Bool) (k:Nat) (h:k<l.length):Zcr (l.take (k+1))=Zcr (l.take k)+(l[k]).toNat*2^k:=by
 rw [List.take_succ_eq_append_getElem h,ZeW,List.length_take,Nat.min_eq_left (by omega)]
 simp only [Zcr,Nat.mul_zero,Nat.add_zero]
 rw [Nat.mul_comm (2^_)]
theorem ZwU {s:Str} (hs:s.length≤1000000000) (k:Nat) (hk:k≤60) (m0:Option (List Bool)):∀(j i v:Nat) (at_:Int) (bad:Bool),i+j=k→v<2^i→(∀l,m0=some l→i≤l.length→v=Zcr (l.take i))→Rs s at_ bad (ZbN i m0)→
  Ret (Zfe.l0 (j+1) ((v:Int),(k:Int),(i:Int),s,at_,bad)) (Zqy s k m0)
 | 0,i,v,at_,bad,hi,hv,hl,h=>by
  rw [Zfe.l0.succ];simp only [Zfe.l0.step]
  rw [ZaQ (by omega)]
  have:i=k:=by omega
  subst this
  exact .pure ⟨rfl,⟨v,rfl,hv,hl⟩,h⟩
 | j+1,i,v,at_,bad,hi,hv,hl,h=>by
  rw [Zfe.l0.succ];simp only [Zfe.l0.step]
  rw [ZaP (by omega),cond_true]
  refine .bind (ZkB hs h) ?_
  rintro ⟨r,s',at',bad'⟩ ⟨rfl,b,rfl,h2,h3⟩
  dsimp only at h2 h3 ⊢
  have hb:b.toNat≤1:=by cases b<;>decide
  have hp:2^i≤2^60:=Nat.pow_le_pow_right (by omega) (by omega)
  have hle:b.toNat*2^i≤1*2^i:=Nat.mul_le_mul_right _ hb
  ((try simp (disch:=omega) only [Zas,Zaq,Zal,Zad,ZaD,Za8,Zaf,ZaG,ZaF,Zae,Option.map_some,cond_true,cond_false,Int.sub_zero,Int.toNat_natCast]);(try simp only [ZbG,Zen,Zes,ZaE,ZbU,if_true,if_false]))
  rw [ZeH _ _ (by omega) (by omega),Zja _ _ (by omega) (by omega),Zlx v _ i hv,show ((i:Int)+1)=((i+1:Nat):Int) by omega]
  refine ZwU hs k hk m0 j (i+1) _ at' bad' (by omega) (by rw [Nat.pow_succ];omega) (fun l hm hil=>?_) (by rw [Zru];exact h2)
  subst hm
  have hlen:i<l.length:=by omega
  rw [ZiF l i hlen,←hl l rfl (by omega)]
  have:=h3 l[i] (l.drop (i+1)) (by simp only [ZbN];rw [if_pos (by omega),List.drop_eq_getElem_cons hlen])
  rw [this]
theorem Ze0 {s:Str} {at_:Int} {bad:Bool} {m:Option (List Bool)} (hs:s.length≤1000000000) (k:Nat) (hk:k≤60) (h:Rs s at_ bad m):Ret (Zfe (k:Int) s at_ bad) (Zqy s k m):=by
 unfold Zfe
 rw [ZaA]
 refine .bind (ZwU hs k hk m k 0 0 at_ bad (by omega) (by simp) (fun l _ _=>by simp [Zcr]) (by rw [Zrt];exact h)) ?_
 rintro ⟨r,s',at',bad'⟩ hr
 exact .pure hr
theorem ZwQ {s:Str} (hs:s.length≤1000000000) (k:Nat) (hk:k≤60) (m0:Option (List Bool)):∀(j i v:Nat) (at_:Int) (bad:Bool),i+j=k→v<2^i→(∀l,m0=some l→i≤l.length→v=Zcr (l.take i))→Rs s at_ bad (ZbN i m0)→
  Ret (Zfr.l0 (j+1) ((k:Int),(v:Int),(i:Int),s,at_,bad)) (Zqy s k m0)
 | 0,i,v,at_,bad,hi,hv,hl,h=>by
  rw [Zfr.l0.succ];simp only [Zfr.l0.step]
  rw [ZaQ (by omega)]
  have:i=k:=by omega
  subst this
  exact .pure ⟨rfl,⟨v,rfl,hv,hl⟩,h⟩
 | j+1,i,v,at_,bad,hi,hv,hl,h=>by
  rw [Zfr.l0.succ];simp only [Zfr.l0.step]
  rw [ZaP (by omega),cond_true]
  refine .bind (Zs8 hs h) ?_
  rintro ⟨r,s',at',bad'⟩ ⟨rfl,b,rfl,h2,h3⟩
  dsimp only at h2 h3 ⊢
  have hb:b.toNat≤1:=by cases b<;>decide
  have hp:2^i≤2^60:=Nat.pow_le_pow_right (by omega) (by omega)
  have hle:b.toNat*2^i≤1*2^i:=Nat.mul_le_mul_right _ hb
  rw [Zir i (by omega)]
  simp only [Zae]
  rw [←Int.natCast_mul]
  ((try simp (disch:=omega) only [Zas,Zaq,Zal,Zad,ZaD,Za8,Zaf,ZaG,ZaF,Zae,Option.map_some,cond_true,cond_false,Int.sub_zero,Int.toNat_natCast]);(try simp only [ZbG,Zen,Zes,ZaE,ZbU,if_true,if_false]))
  rw [←Int.natCast_add,show ((i:Int)+1)=((i+1:Nat):Int) by omega]
  refine ZwQ hs k hk m0 j (i+1) _ at' bad' (by omega) (by rw [Nat.pow_succ];omega) (fun l hm hil=>?_) (by rw [Zru];exact h2)
  subst hm
  have hlen:i<l.length:=by omega
  rw [ZiF l i hlen,←hl l rfl (by omega)]
  have:=h3 l[i] (l.drop (i+1)) (by simp only [ZbN];rw [if_pos (by omega),List.drop_eq_getElem_cons hlen])
  rw [this]
theorem Zez {s:Str} {at_:Int} {bad:Bool} {m:Option (List Bool)} (hs:s.length≤1000000000) (k:Nat) (hk:k≤60) (h:Rs s at_ bad m):Ret (Zfr (k:Int) s at_ bad) (Zqy s k m):=by
 unfold Zfr
 rw [ZaA]
 refine .bind (ZwQ hs k hk m k 0 0 at_ bad (by omega) (by simp) (fun l _ _=>by simp [Zcr]) (by rw [Zrt];exact h)) ?_
 rintro ⟨r,s',at',bad'⟩ hr
 exact .pure hr
def Zd0:Option (List Bool)→Option (List Bool)
 | some l=>if Zcr (l.take (l.length%8))=0 then some (l.drop (l.length%8)) else none
 | none=>none
theorem Ziq (b:Bool) (l:List Bool) (h:(l.length+1)%8≠0):Zd0 (some (b::l))=if b then none else Zd0 (some l):=by
 have e:(l.length+1)%8=l.length%8+1:=by omega
 simp only [Zd0,List.length_cons,e,List.take_succ_cons,List.drop_succ_cons,Zcr]
 cases b
 ·by_cases h0:Zcr (List.take (l.length%8) l)=0
  ·simp [h0]
  ·simp [h0];omega
 ·simp
theorem Zuf {s:Str} (hs:s.length≤1000000000):∀(j:Nat) (at_:Int) (bad:Bool) (m:Option (List Bool)),Rs s at_ bad m→(8-at_.toNat%8)%8<j→
  Ret (Zep.l0 j (s,at_,bad)) fun r=>r.1=s∧Rs s r.2.1 r.2.2 (Zd0 m)
 | 0,_,_,_,_,h=>absurd h (by omega)
 | j+1,at_,bad,m,h,hj=>by
  obtain ⟨n,rfl,hn⟩:=h.at
  rw [Zep.l0.succ];simp only [Zep.l0.step]
  have hmod:((n:Int)).tmod 8=((n%8:Nat):Int):=by rw [ZaG (by omega)];omega
  rw [hmod]
  ((try simp (disch:=omega) only [Zas,Zaq,Zal,Zad,ZaD,Za8,Zaf,ZaG,ZaF,Zae,Option.map_some,cond_true,cond_false,Int.sub_zero,Int.toNat_natCast]);(try simp only [ZbG,Zen,Zes,ZaE,ZbU,if_true,if_false]))
  refine .ite (fun h0=>.pure ⟨rfl,?_⟩) fun h0=>?_
  ·cases m with
   | none=>exact h
   | some l=>
    have hl:=h.len
    have:l.length%8=0:=by omega
    simp only [Zd0,this,List.take_zero,List.drop_zero,Zcr,if_true];exact h
  ·have hlt:n<8*s.length:=by omega
   have hst:=ZkB hs h
   rw [Ztf s n bad hs hlt] at hst ⊢
   obtain ⟨r0,hr0,hst⟩:=hst
   cases hr0
   obtain ⟨_,b,hb,h2,h3⟩:=hst
   dsimp only at hb h2 h3
   have hbb:(s.getD (n/8) 0).toNat.testBit (n%8)=b:=by
    generalize (s.getD (n/8) 0).toNat.testBit (n%8)=c at hb
    revert hb;cases b<;>cases c<;>simp
   rw [hbb]
   simp only [Zae]
   have fin:∀bad2,Rs s ((n+1:Nat):Int) bad2 (match m with
     | some (c::l)=>if b then none else some l
     | _=>none)→Ret (Zep.l0 j (s,((n+1:Nat):Int),bad2)) fun r=>r.1=s∧Rs s r.2.1 r.2.2 (Zd0 m):=fun bad2 h4=>by
    refine (Zuf hs j _ bad2 _ h4 (by omega)).mono fun r ⟨e1,e2⟩=>⟨e1,?_⟩
    cases m with
    | none=>exact e2
    | some l=>
     cases l with
     | nil=>have:=h.len;simp at this;omega
     | cons c l=>
      have hl:=h.len
      rw [Ziq c l (by simp at hl;omega),←h3 c l rfl]
      cases b<;>exact e2
   ((try simp (disch:=omega) only [Zas,Zaq,Zal,Zad,ZaD,Za8,Zaf,ZaG,ZaF,Zae,Option.map_some,cond_true,cond_false,Int.sub_zero,Int.toNat_natCast]);(try simp only [ZbG,Zen,Zes,ZaE,ZbU,if_true,if_false]))
   refine .ite (fun hb0=>fin bad ?_) fun hb0=>fin true ?_
   ·have:b=false:=by cases b<;>simp at hb0 ⊢
    subst this
    cases m with
    | none=>exact h2
    | some l=>cases l<;>exact h2
   ·have:b=true:=by cases b<;>simp at hb0 ⊢
    subst this
    cases m with
    | none=>exact h2.fail
    | some l=>cases l<;>exact h2.fail
theorem Zue {s:Str} {at_:Int} {bad:Bool} {m:Option (List Bool)} (hs:s.length≤1000000000) (h:Rs s at_ bad m):Ret (Zep s at_ bad) fun r=>r.1=s∧Rs s r.2.1 r.2.2 (Zd0 m):=by
 unfold Zep
 refine .bind (Zuf hs 9 at_ bad m h (by omega)) ?_
 rintro ⟨s',a,b⟩ hr
 exact .pure hr
theorem Zq0 {s:Str} (hs:s.length≤1000000000):∀(j v:Nat) (at_:Int) (bad:Bool) (m:Option (List Bool)),Rs s at_ bad m→(8-at_.toNat%8)%8<j→v≤100-8*((8-at_.toNat%8)%8)→
  Ret (ZcX.l0 j ((v:Int),s,at_,bad)) fun r=>r.2.1=s∧∃q:Nat,r.1=(q:Int)∧v≤q∧((v=q→Rs s r.2.2.1 r.2.2.2 (Zd0 m))∧(v≠q→Zd0 m=none∧∃m',Rs s r.2.2.1 r.2.2.2 m'))
 | 0,_,_,_,_,_,h,_=>absurd h (by omega)
 | j+1,v,at_,bad,m,h,hj,hv=>by
  obtain ⟨n,rfl,hn⟩:=h.at
  rw [ZcX.l0.succ];simp only [ZcX.l0.step]
  have hmod:((n:Int)).tmod 8=((n%8:Nat):Int):=by rw [ZaG (by omega)];omega
  rw [hmod]
  ((try simp (disch:=omega) only [Zas,Zaq,Zal,Zad,ZaD,Za8,Zaf,ZaG,ZaF,Zae,Option.map_some,cond_true,cond_false,Int.sub_zero,Int.toNat_natCast]);(try simp only [ZbG,Zen,Zes,ZaE,ZbU,if_true,if_false]))
  refine .ite (fun h0=>.pure ⟨rfl,v,rfl,Nat.le_refl _,fun _=>?_,fun h=>absurd rfl h⟩) fun h0=>?_
  ·cases m with
   | none=>exact h
   | some l=>
    have hl:=h.len
    have:l.length%8=0:=by omega
    simp only [Zd0,this,List.take_zero,List.drop_zero,Zcr,if_true];exact h
  ·have hlt:n<8*s.length:=by omega
   have hst:=ZkB hs h
   rw [ZwR s n bad hs hn]
   rw [Ztf s n bad hs hlt] at hst ⊢
   obtain ⟨r0,hr0,hst⟩:=hst
   cases hr0
   obtain ⟨_,b,hb,h2,h3⟩:=hst
   dsimp only at hb h2 h3
   have hbb:(s.getD (n/8) 0).toNat.testBit (n%8)=b:=by
    generalize (s.getD (n/8) 0).toNat.testBit (n%8)=c at hb
    revert hb;cases b<;>cases c<;>simp
   rw [hbb]
   simp only [Zae]
   have hb1:b.toNat≤1:=by cases b<;>decide
   ((try simp (disch:=omega) only [Zas,Zaq,Zal,Zad,ZaD,Za8,Zaf,ZaG,ZaF,Zae,Option.map_some,cond_true,cond_false,Int.sub_zero,Int.toNat_natCast]);(try simp only [ZbG,Zen,Zes,ZaE,ZbU,if_true,if_false]))
   rw [←Int.natCast_add]
   refine (Zq0 hs j (v+b.toNat) _ bad _ h2 (by omega) (by omega)).mono fun r ⟨e1,q,e2,e3,e4,e5⟩=>⟨e1,q,e2,by omega,fun hq=>?_,fun hq=>?_⟩
   ·have:b=false:=by cases b<;>simp at e3 ⊢<;>omega
    subst this
    have e4:=e4 (by simp;omega)
    cases m with
    | none=>exact e4
    | some l=>
     cases l with
     | nil=>have:=h.len;simp at this;omega
     | cons c l=>
      have hl:=h.len
      rw [Ziq c l (by simp at hl;omega),←h3 c l rfl]
      exact e4
   ·by_cases hq2:v+b.toNat=q
    ·refine ⟨?_,_,e4 hq2⟩
     have:b=true:=by cases b<;>simp at hq2 ⊢;omega
     subst this
     cases m with
     | none=>rfl
     | some l=>
      cases l with
      | nil=>have:=h.len;simp at this;omega
      | cons c l=>
       have hl:=h.len
       rw [Ziq c l (by simp at hl;omega),←h3 c l rfl];rfl
    ·obtain ⟨f1,f2⟩:=e5 hq2
     refine ⟨?_,f2⟩
     cases m with
     | none=>rfl
     | some l=>
      cases l with
      | nil=>have:=h.len;simp at this;omega
      | cons c l=>
       have hl:=h.len
       rw [Ziq c l (by simp at hl;omega)]
       cases c
       ·exact f1
       ·rfl
theorem Zms {s:Str} {at_:Int} {bad:Bool} {m:Option (List Bool)} (hs:s.length≤1000000000) (h:Rs s at_ bad m):Ret (ZcX s at_ bad) fun r=>r.2.1=s∧(r.1=true→Rs s r.2.2.1 r.2.2.2 (Zd0 m))∧(r.1=false→Zd0 m=none∧∃m',Rs s r.2.2.1 r.2.2.2 m'):=by
 unfold ZcX
 refine .bind (Zq0 hs 9 0 at_ bad m h (by omega) (by omega)) ?_
 rintro ⟨v,s',a,b⟩ ⟨e1,q,e2,e3,e4,e5⟩
 dsimp only at e1 e2 e3 e4 e5 ⊢
 subst e2
 refine .pure ⟨e1,fun hq=>e4 ?_,fun hq=>e5 ?_⟩
 ·dsimp only at hq;rw [beq_iff_eq] at hq;omega
 ·dsimp only at hq;rw [beq_eq_false_iff_ne] at hq;omega
end Ev
end
section
namespace Ev
open Go
theorem Zik (n:Int):IntKind.wrap .u32 n=n%4294967296:=by simp [IntKind.wrap,IntKind.bits,IntKind.signed]
theorem ZfL (x y:Nat) (hx:x<4294967296) (hy:y<4294967296):Zl2 .u32 (x:Int) (y:Int)=((x^^^y:Nat):Int):=by
 have hz:x^^^y<2^32:=Nat.xor_lt_two_pow (by omega) (by omega)
 unfold Zl2
 have e:(BitVec.ofInt IntKind.u32.bits (x:Int)^^^BitVec.ofInt IntKind.u32.bits (y:Int)).toNat=x^^^y:=by
  simp only [BitVec.ofInt_natCast,BitVec.toNat_xor,BitVec.toNat_ofNat,show IntKind.u32.bits=32 from rfl]
  rw [Nat.mod_eq_of_lt (by omega),Nat.mod_eq_of_lt (by omega)]
 rw [e,Zik];omega
theorem Zr3 (x:Nat) (hx:x<4294967296):ZkR .u32 (x:Int) 1=((x%2:Nat):Int):=by
 have hz:x &&& 1<2^32:=Nat.and_lt_two_pow _ (by omega)
 unfold ZkR
 have e:(BitVec.ofInt IntKind.u32.bits (x:Int) &&& BitVec.ofInt IntKind.u32.bits ((1:Nat):Int)).toNat=x &&& 1:=by
  simp only [BitVec.ofInt_natCast,BitVec.toNat_and,BitVec.toNat_ofNat,show IntKind.u32.bits=32 from rfl]
  rw [Nat.mod_eq_of_lt (by omega),Nat.mod_eq_of_lt (by omega)]
 rw [show (1:Int)=((1:Nat):Int) from rfl,e,Zik,Nat.and_one_is_mod];omega
theorem Zr1 (x:Nat):Zm4 .u32 (x:Int) 1=((x/2:Nat):Int):=by
 unfold Zm4
 rw [show min (1:Int).toNat IntKind.u32.bits=1 from rfl,show ((2:Int)^1)=2 by rfl,Int.fdiv_eq_ediv_of_nonneg _ (by omega)]
 omega
def Zh9 (c:Nat):Nat:=if c%2=1 then c/2^^^3988292384 else c/2
def Zix:Nat→Nat→Nat
 | 0,c=>c
 | n+1,c=>Zix n (Zh9 c)
def ZgJ (c:Nat) (b:UInt8):Nat:=Zix 8 (c^^^b.toNat)
def Zqn (text:Str):Nat:=text.foldl ZgJ 4294967295^^^4294967295
theorem Zk3 {c:Nat} (h:c<4294967296):Zh9 c<4294967296:=by
 unfold Zh9
 split
 ·exact Nat.xor_lt_two_pow (n:=32) (by omega) (by omega)
 ·omega
theorem ZnA:∀{n c:Nat},c<4294967296→Zix n c<4294967296
 | 0,c,h=>h
 | n+1,c,h=>ZnA (n:=n) (Zk3 h)
theorem Zk4 {c:Nat} {b:UInt8} (h:c<4294967296):ZgJ c b<4294967296:=
 ZnA (Nat.xor_lt_two_pow (n:=32) (by omega) (by have:=b.toNat_lt;omega))
theorem Ziy:∀(text:Str) {c:Nat},c<4294967296→text.foldl ZgJ c<4294967296
 | [],_,h=>h
 | b::t,_,h=>Ziy t (Zk4 h)
theorem ZgI (text:Str):Zqn text<4294967296:=Nat.xor_lt_two_pow (n:=32) (Ziy text (by omega)) (by omega)
theorem ZlH (text:Str) (k:Int):∀(j i c:Nat),i+j=8→c<4294967296→ZaH.l0 (j+1) ((c:Int),text,k,(i:Int))=some (((Zix j c:Nat):Int),text,k)
 | 0,i,c,hi,hc=>by
  rw [ZaH.l0.succ];simp only [ZaH.l0.step]
  ((try simp (disch:=omega) only [Zas,Zaq,Zal,Zad,ZaD,Za8,Zaf,ZaG,ZaF,Zae,Option.map_some,cond_true,cond_false,Int.sub_zero,Int.toNat_natCast]);(try simp only [ZbG,Zen,Zes,ZaE,ZbU,if_true,if_false]))
  rw [if_neg (by omega)];rfl
 | j+1,i,c,hi,hc=>by
  have ih:=ZlH text k j (i+1) (Zh9 c) (by omega) (Zk3 hc)
  rw [ZaH.l0.succ];simp only [ZaH.l0.step]
  ((try simp (disch:=omega) only [Zas,Zaq,Zal,Zad,ZaD,Za8,Zaf,ZaG,ZaF,Zae,Option.map_some,cond_true,cond_false,Int.sub_zero,Int.toNat_natCast]);(try simp only [ZbG,Zen,Zes,ZaE,ZbU,if_true,if_false]))
  rw [if_pos (by omega),Zr1,Zr3 c hc]
  have e:Zl2 .u32 ((c/2:Nat):Int) (IntKind.wrap .u32 (3988292384*((c%2:Nat):Int)))=((Zh9 c:Nat):Int):=by
   rw [Zik]
   unfold Zh9
   split
   ·rename_i h1
    rw [h1,show ((3988292384:Int)*((1:Nat):Int)%4294967296)=((3988292384:Nat):Int) by rfl,ZfL _ _ (by omega) (by omega)]
   ·rename_i h1
    have:c%2=0:=by omega
    rw [this,show ((3988292384:Int)*((0:Nat):Int)%4294967296)=((0:Nat):Int) by rfl,ZfL _ _ (by omega) (by omega),Nat.xor_zero]
  rw [e,show ((i:Int)+1)=((i+1:Nat):Int) by omega,ih];rfl
theorem ZlG (text:Str) (hs:text.length≤1000000000):∀(j i c:Nat),i+j=text.length→c<4294967296→ZaH.l1 (j+1) ((c:Int),text,(i:Int))=some (((text.drop i).foldl ZgJ c:Nat):Int)
 | 0,i,c,hi,hc=>by
  rw [ZaH.l1.succ];simp only [ZaH.l1.step]
  ((try simp (disch:=omega) only [Zas,Zaq,Zal,Zad,ZaD,Za8,Zaf,ZaG,ZaF,Zae,Option.map_some,cond_true,cond_false,Int.sub_zero,Int.toNat_natCast]);(try simp only [ZbG,Zen,Zes,ZaE,ZbU,if_true,if_false]))
  rw [if_neg (by omega),List.drop_eq_nil_of_le (by omega)];rfl
 | j+1,i,c,hi,hc=>by
  have hlt:i<text.length:=by omega
  rw [ZaH.l1.succ];simp only [ZaH.l1.step]
  ((try simp (disch:=omega) only [Zas,Zaq,Zal,Zad,ZaD,Za8,Zaf,ZaG,ZaF,Zae,Option.map_some,cond_true,cond_false,Int.sub_zero,Int.toNat_natCast]);(try simp only [ZbG,Zen,Zes,ZaE,ZbU,if_true,if_false]))
  rw [if_pos (by omega)]
  have hb:(text.getD i 0).toNat<256:=(text.getD i 0).toNat_lt
  rw [Zik,show (((text.getD i 0).toNat:Int)%4294967296)=(((text.getD i 0).toNat:Nat):Int) by omega,ZfL _ _ hc (by omega)]
  have h0:=ZlH text (i:Int) 8 0 (c^^^(text.getD i 0).toNat) (by omega) (Nat.xor_lt_two_pow (n:=32) (by omega) (by omega))
  rw [show ((0:Nat):Int)=0 from rfl] at h0
  rw [show ((8:Int)).toNat+1=8+1 from rfl,h0]
  simp only [Zae]
  ((try simp (disch:=omega) only [Zas,Zaq,Zal,Zad,ZaD,Za8,Zaf,ZaG,ZaF,Zae,Option.map_some,cond_true,cond_false,Int.sub_zero,Int.toNat_natCast]);(try simp only [ZbG,Zen,Zes,ZaE,ZbU,if_true,if_false]))
  rw [show ((i:Int)+1)=((i+1:Nat):Int) by omega]
  have:=ZlG text hs j (i+1) (ZgJ c (text.getD i 0)) (by omega) (Zk4 hc)
  unfold ZgJ at this
  rw [this,List.drop_eq_getElem_cons hlt,Zan hlt];rfl
theorem Zz7 (text:Str) (hs:text.length≤1000000000):crc text=some ((Zqn text:Nat):Int):=by
 unfold crc ZaH
 rw [ZaA]
 have e:Zl2 .u32 (IntKind.max .u32) 0=((4294967295:Nat):Int):=ZfL 4294967295 0 (by omega) (by omega)
 have h:=ZlG text hs text.length 0 4294967295 (by omega) (by omega)
 rw [show ((0:Nat):Int)=0 from rfl] at h
 rw [e,h]
 simp only [Zae,List.drop_zero]
 have hl:=Ziy text (c:=4294967295) (by omega)
 have e2:Zl2 .u32 (IntKind.max .u32) ((text.foldl ZgJ 4294967295:Nat):Int)=((Zqn text:Nat):Int):=by
  rw [show IntKind.max .u32=((4294967295:Nat):Int) from rfl,ZfL _ _ (by omega) hl,Nat.xor_comm];rfl
 rw [e2]
 have:=ZgI text
 ((try simp (disch:=omega) only [Zas,Zaq,Zal,Zad,ZaD,Za8,Zaf,ZaG,ZaF,Zae,Option.map_some,cond_true,cond_false,Int.sub_zero,Int.toNat_natCast]);(try simp only [ZbG,Zen,Zes,ZaE,ZbU,if_true,if_false]))
theorem ZrU:∀(j i c:Nat),i+j=8→c<4294967296→Zdg.l0 (j+1) ((c:Int),(i:Int))=some ((Zix j c:Nat):Int)
 | 0,i,c,hi,hc=>by
  rw [Zdg.l0.succ];simp only [Zdg.l0.step]
  ((try simp (disch:=omega) only [Zas,Zaq,Zal,Zad,ZaD,Za8,Zaf,ZaG,ZaF,Zae,Option.map_some,cond_true,cond_false,Int.sub_zero,Int.toNat_natCast]);(try simp only [ZbG,Zen,Zes,ZaE,ZbU,if_true,if_false]))
  rw [if_neg (by omega)];rfl
 | j+1,i,c,hi,hc=>by
  have ih:=ZrU j (i+1) (Zh9 c) (by omega) (Zk3 hc)
  rw [Zdg.l0.succ];simp only [Zdg.l0.step]
  ((try simp (disch:=omega) only [Zas,Zaq,Zal,Zad,ZaD,Za8,Zaf,ZaG,ZaF,Zae,Option.map_some,cond_true,cond_false,Int.sub_zero,Int.toNat_natCast]);(try simp only [ZbG,Zen,Zes,ZaE,ZbU,if_true,if_false]))
  rw [if_pos (by omega),show ((i:Int)+1)=((i+1:Nat):Int) by omega,Zik,show ((c:Int)/2%4294967296)=((c/2:Nat):Int) by omega]
  unfold Zix
  rw [←ih]
  unfold Zh9
  by_cases h:c%2=1
  ·have:=ZfL (c/2) 3988292384 (by omega) (by omega)
   rw [show ((3988292384:Nat):Int)=3988292384 from rfl] at this
   rw [if_pos (by omega),this,if_pos h]
  ·rw [if_neg (by omega),if_neg h]
theorem ZxK (c:Nat) (b:UInt8) (hc:c<4294967296):Zdg (c:Int) ((b.toNat:Nat):Int)=some ((ZgJ c b:Nat):Int):=by
 unfold Zdg
 have hb:b.toNat<256:=b.toNat_lt
 have h0:=ZrU 8 0 (c^^^b.toNat) (by omega) (Nat.xor_lt_two_pow (n:=32) (by omega) (by omega))
 rw [Zik,show (((b.toNat:Nat):Int)%4294967296)=((b.toNat:Nat):Int) by omega,ZfL _ _ hc (by omega)]
 rw [show ((0:Nat):Int)=0 from rfl] at h0
 rw [show ((8:Int)-0).toNat+1=8+1 from rfl,h0];rfl
theorem ZrV (text:Str) (hs:text.length≤1000000000):∀(j i c:Nat),i+j=text.length→c<4294967296→Zdm.l0 (j+1) (text,(c:Int),(i:Int))=some (((text.drop i).foldl ZgJ c:Nat):Int)
 | 0,i,c,hi,hc=>by
  rw [Zdm.l0.succ];simp only [Zdm.l0.step]
  ((try simp (disch:=omega) only [Zas,Zaq,Zal,Zad,ZaD,Za8,Zaf,ZaG,ZaF,Zae,Option.map_some,cond_true,cond_false,Int.sub_zero,Int.toNat_natCast]);(try simp only [ZbG,Zen,Zes,ZaE,ZbU,if_true,if_false]))
  rw [if_neg (by omega),List.drop_eq_nil_of_le (by omega)];rfl
 | j+1,i,c,hi,hc=>by
  have hlt:i<text.length:=by omega
  rw [Zdm.l0.succ];simp only [Zdm.l0.step]
  ((try simp (disch:=omega) only [Zas,Zaq,Zal,Zad,ZaD,Za8,Zaf,ZaG,ZaF,Zae,Option.map_some,cond_true,cond_false,Int.sub_zero,Int.toNat_natCast]);(try simp only [ZbG,Zen,Zes,ZaE,ZbU,if_true,if_false]))
  rw [if_pos (by omega),ZxK c _ hc]
  ((try simp (disch:=omega) only [Zas,Zaq,Zal,Zad,ZaD,Za8,Zaf,ZaG,ZaF,Zae,Option.map_some,cond_true,cond_false,Int.sub_zero,Int.toNat_natCast]);(try simp only [ZbG,Zen,Zes,ZaE,ZbU,if_true,if_false]))
  rw [show ((i:Int)+1)=((i+1:Nat):Int) by omega,ZrV text hs j (i+1) _ (by omega) (Zk4 hc),List.drop_eq_getElem_cons hlt,Zan hlt];rfl
theorem Zks (text:Str) (hs:text.length≤1000000000):ZcR text=some ((Zqn text:Nat):Int):=by
 unfold ZcR Zdm
 rw [ZaA]
 have e:Zl2 .u32 0 4294967295=((4294967295:Nat):Int):=ZfL 0 4294967295 (by omega) (by omega)
 have h:=ZrV text hs text.length 0 4294967295 (by omega) (by omega)
 rw [show ((0:Nat):Int)=0 from rfl] at h
 rw [e,h]
 simp only [Zae,List.drop_zero]
 have hl:=Ziy text (c:=4294967295) (by omega)
 have e2:Zl2 .u32 ((text.foldl ZgJ 4294967295:Nat):Int) 4294967295=((Zqn text:Nat):Int):=ZfL _ 4294967295 hl (by omega)
 rw [e2]
 have:=ZgI text
 ((try simp (disch:=omega) only [Zas,Zaq,Zal,Zad,ZaD,Za8,Zaf,ZaG,ZaF,Zae,Option.map_some,cond_true,cond_false,Int.sub_zero,Int.toNat_natCast]);(try simp only [ZbG,Zen,Zes,ZaE,ZbU,if_true,if_false]))
theorem Zvf:∀(n:Nat) (t:Str×Int×Int×Int),ZcD.l0 n t=ZaT.l0 n t
 | 0,_=>rfl
 | n+1,(text,a,b,k)=>by
  rw [ZcD.l0.succ,ZaT.l0.succ]
  simp only [ZcD.l0.step,ZaT.l0.step,Zvf n]
theorem Zlk (text:Str) (hs:text.length≤1000000000):∀(j i:Nat) (a b:Int),i+j=text.length→0≤a→a<65521→0≤b→b<65521→
  Ret (ZaT.l0 (j+1) (text,a,b,(i:Int))) fun r=>0≤r.1∧r.1<65521∧0≤r.2∧r.2<65521
 | 0,i,a,b,hi,h1,h2,h3,h4=>by
  rw [ZaT.l0.succ];simp only [ZaT.l0.step]
  ((try simp (disch:=omega) only [Zas,Zaq,Zal,Zad,ZaD,Za8,Zaf,ZaG,ZaF,Zae,Option.map_some,cond_true,cond_false,Int.sub_zero,Int.toNat_natCast]);(try simp only [ZbG,Zen,Zes,ZaE,ZbU,if_true,if_false]))
  rw [if_neg (by omega)];exact .pure ⟨h1,h2,h3,h4⟩
 | j+1,i,a,b,hi,h1,h2,h3,h4=>by
  have hlt:i<text.length:=by omega
  have hb:(text.getD i 0).toNat<256:=(text.getD i 0).toNat_lt
  rw [ZaT.l0.succ];simp only [ZaT.l0.step]
  ((try simp (disch:=omega) only [Zas,Zaq,Zal,Zad,ZaD,Za8,Zaf,ZaG,ZaF,Zae,Option.map_some,cond_true,cond_false,Int.sub_zero,Int.toNat_natCast]);(try simp only [ZbG,Zen,Zes,ZaE,ZbU,if_true,if_false]))
  rw [if_pos (by omega),show ((i:Int)+1)=((i+1:Nat):Int) by omega]
  exact Zlk text hs j (i+1) _ _ (by omega) (by omega) (by omega) (by omega) (by omega)
theorem Zwo (text:Str) (hs:text.length≤1000000000):Zie text=ZaT text∧∃n:Int,ZaT text=some n∧0≤n∧n<4294967296:=by
 obtain ⟨⟨a,b⟩,hr,h1,h2,h3,h4⟩:=Zlk text hs text.length 0 1 0 (by omega) (by omega) (by omega) (by omega) (by omega)
 rw [show ((0:Nat):Int)=0 from rfl] at hr
 dsimp only at h1 h2 h3 h4
 have e:ZaT text=some (b*65536+a):=by
  unfold ZaT
  rw [ZaA,hr]
  ((try simp (disch:=omega) only [Zas,Zaq,Zal,Zad,ZaD,Za8,Zaf,ZaG,ZaF,Zae,Option.map_some,cond_true,cond_false,Int.sub_zero,Int.toNat_natCast]);(try simp only [ZbG,Zen,Zes,ZaE,ZbU,if_true,if_false]))
 refine ⟨?_,b*65536+a,e,by omega,by omega⟩
 rw [e]
 unfold Zie ZcD
 rw [ZaA,Zvf,hr]
 simp only [Zae,Option.some.injEq]
 obtain ⟨a,rfl⟩:=Int.eq_ofNat_of_zero_le h1
 obtain ⟨b,rfl⟩:=Int.eq_ofNat_of_zero_le h3
 have h:=ZeH b 16 (by omega) (by omega)
 rw [show ((16:Nat):Int)=16 from rfl] at h
 rw [h,Zja _ _ (by omega) (by omega),Nat.or_comm,Zlx a b 16 (by omega)]
 omega
end Ev
end
section
namespace Ev
open Go
def zs (ns:List Nat):List Int:=ns.map fun (n:Nat)=>(n:Int)
theorem Zag (ns:List Nat):(zs ns).length=ns.length:=by simp [zs]
theorem ZaJ (ns:List Nat) (i:Nat):(zs ns).getD i 0=((ns.getD i 0:Nat):Int):=by
 simp only [zs,List.getD_eq_getElem?_getD,List.getElem?_map]
 cases ns[i]?<;>rfl
theorem ZfS (a b:List Nat):zs (a++b)=zs a++zs b:=by simp [zs]
theorem ZfR (a:List Nat) (i n:Nat):(zs a).set i (n:Int)=zs (a.set i n):=by simp [zs,List.map_set]
theorem Zgf (k n:Nat):List.replicate k (n:Int)=zs (List.replicate k n):=by simp [zs]
def Zbw:List Nat→Nat
 | []=>0
 | n::r=>(if 0<n then 2^(15-n) else 0)+Zbw r
def Zfc:List Nat→Nat
 | []=>0
 | n::r=>(if 0<n then 1 else 0)+Zfc r
theorem Zpu:∀ns:List Nat,Zfc ns≤ns.length
 | []=>Nat.le_refl _
 | n::r=>by
  have:=Zpu r
  simp only [Zfc,List.length_cons]
  split<;>omega
def Zde (ns:List Nat):Bool:=decide (ns.length≤300)&&(ns.all (fun n=>decide (n≤15))&&(decide (Zbw ns=32768)||decide (Zfc ns=1∧Zbw ns=16384)))
def ZgF (a:Nat):List Nat→Nat
 | []=>a
 | n::r=>ZgF (if 0<n then n else a) r
theorem ZmN (ns:List Nat) (hn:ns.length≤300):∀(j i sum many last:Nat),i+j=ns.length→sum≤32768*i→many≤i→
  Zcf.l0 (j+1) ((sum:Int),(many:Int),(last:Int),zs ns,(ns.length:Int),(i:Int)) =
   some (if (ns.drop i).all (fun n=>decide (n≤15)) then .inl (((sum+Zbw (ns.drop i):Nat):Int),((many+Zfc (ns.drop i):Nat):Int),((ZgF last (ns.drop i):Nat):Int)) else .inr false)
 | 0,i,sum,many,last,hi,h1,h2=>by
  rw [Zcf.l0.succ];simp only [Zcf.l0.step]
  rw [ZaQ (by omega),List.drop_eq_nil_of_le (by omega)];rfl
 | j+1,i,sum,many,last,hi,h1,h2=>by
  have hlt:i<ns.length:=by omega
  have hd:ns.drop i=ns[i]::ns.drop (i+1):=List.drop_eq_getElem_cons hlt
  have hg:ns.getD i 0=ns[i]:=Zan hlt
  rw [Zcf.l0.succ];simp only [Zcf.l0.step]
  rw [ZaP hlt,cond_true,Zab _ (by rw [Zag];exact Zaw hlt),Int.toNat_natCast,ZaJ,hg,ZdU,hd,List.all_cons]
  simp only [Zae]
  by_cases h15:ns[i]≤15
  ·have e1:decide ((0:Int)≤(ns[i]:Int)∧(ns[i]:Int)≤15)=true:=by simp;omega
   rw [e1,decide_eq_true h15,Bool.true_and]
   simp only [Bool.not_true,cond_false,ZbG]
   by_cases h0:0<ns[i]
   ·have hp:2^(15-ns[i])≤2^15:=Nat.pow_le_pow_right (by omega) (by omega)
    have hp0:0<2^(15-ns[i]):=Nat.two_pow_pos _
    have hsh:=ZeH 1 (15-ns[i]) (by omega) (by omega)
    rw [Nat.one_mul,show ((1:Nat):Int)=1 from rfl,show ((15-ns[i]:Nat):Int)=15-(ns[i]:Int) by omega] at hsh
    rw [if_pos (by omega)]
    ((try simp (disch:=omega) only [Zas,Zaq,Zal,Zad,ZaD,Za8,Zaf,ZaG,ZaF,Zae,Option.map_some,cond_true,cond_false,Int.sub_zero,Int.toNat_natCast,hsh]);(try simp only [ZbG,Zen,Zes,ZaE,ZbU,if_true,if_false,hsh]))
    rw [show (sum:Int)+((2^(15-ns[i]):Nat):Int)=((sum+2^(15-ns[i]):Nat):Int) by omega,show (many:Int)+1=((many+1:Nat):Int) by omega,show (i:Int)+1=((i+1:Nat):Int) by omega,
     ZmN ns hn j (i+1) _ _ _ (by omega) (by omega) (by omega)]
    simp only [Zbw,Zfc,ZgF,if_pos h0,Nat.add_assoc]
   ·rw [if_neg (by omega)]
    ((try simp (disch:=omega) only [Zas,Zaq,Zal,Zad,ZaD,Za8,Zaf,ZaG,ZaF,Zae,Option.map_some,cond_true,cond_false,Int.sub_zero,Int.toNat_natCast]);(try simp only [ZbG,Zen,Zes,ZaE,ZbU,if_true,if_false]))
    rw [show (i:Int)+1=((i+1:Nat):Int) by omega,ZmN ns hn j (i+1) _ _ _ (by omega) (by omega) (by omega)]
    simp only [Zbw,Zfc,ZgF,if_neg h0,Nat.zero_add]
  ·have e1:decide ((0:Int)≤(ns[i]:Int)∧(ns[i]:Int)≤15)=false:=by simp;omega
   rw [e1,decide_eq_false h15]
   rfl
theorem ZrK:∀{ns:List Nat} {a:Nat},Zfc ns=1→Zbw ns=2^(15-ZgF a ns)∧0<ZgF a ns
 | [],a,h=>by simp [Zfc] at h
 | n::r,a,h=>by
  simp only [Zfc] at h
  have z:∀r (a:Nat),Zfc r=0→Zbw r=0∧ZgF a r=a:=fun r=>by
   induction r with
   | nil=>intro _ _;exact ⟨rfl,rfl⟩
   | cons m r ih=>
    intro a h
    simp only [Zfc] at h
    by_cases hm:0<m
    ·rw [if_pos hm] at h;omega
    ·rw [if_neg hm] at h;simp only [Zbw,ZgF];rw [if_neg hm,if_neg hm,(ih a (by omega)).1];exact ⟨rfl,(ih a (by omega)).2⟩
  by_cases hn:0<n
  ·rw [if_pos hn] at h
   have h0:Zfc r=0:=by omega
   simp only [Zbw,ZgF,if_pos hn,(z r n h0).1,(z r n h0).2]
   exact ⟨rfl,hn⟩
  ·rw [if_neg hn] at h
   have:=ZrK (ns:=r) (a:=a) (by omega)
   simp only [Zbw,ZgF,if_neg hn,Nat.zero_add]
   exact this
theorem ZmO (ns:List Nat):Zcf (zs ns)=some (Zde ns):=by
 unfold Zcf Zde
 rw [Zag]
 ((try simp (disch:=omega) only [Zas,Zaq,Zal,Zad,ZaD,Za8,Zaf,ZaG,ZaF,Zae,Option.map_some,cond_true,cond_false,Int.sub_zero,Int.toNat_natCast]);(try simp only [ZbG,Zen,Zes,ZaE,ZbU,if_true,if_false]))
 by_cases hn:ns.length≤300
 ·rw [if_neg (by omega)]
  have h:=ZmN ns hn ns.length 0 0 0 0 (by omega) (by omega) (by omega)
  rw [show ((0:Nat):Int)=0 from rfl,List.drop_zero] at h
  rw [h,decide_eq_true hn]
  cases hall:ns.all (fun n=>decide (n≤15)) with
  | false=>rfl
  | true=>
   simp only [if_true,Zae,Bool.true_and,Nat.zero_add,Zen]
   by_cases hk:Zbw ns=32768
   ·rw [if_pos (by omega),decide_eq_true hk];rfl
   ·rw [if_neg (by omega),decide_eq_false hk]
    by_cases hu:Zfc ns=1
    ·rw [if_pos (by omega)]
     obtain ⟨e1,e2⟩:=ZrK (a:=0) hu
     simp only [Zae,Bool.false_or]
     have hl15:ZgF 0 ns≤15∨15<ZgF 0 ns:=by omega
     have:((((ZgF 0 ns:Nat):Int))==1)=decide (Zfc ns=1∧Zbw ns=16384):=by
      rw [Bool.eq_iff_iff,beq_iff_eq,decide_eq_true_eq]
      constructor
      ·intro h1
       have h1:ZgF 0 ns=1:=by omega
       exact ⟨hu,by rw [e1,h1]⟩
      ·rintro ⟨_,h2⟩
       rw [h2] at e1
       have hlt:ZgF 0 ns<15:=by
        rcases Nat.lt_or_ge (ZgF 0 ns) 15 with q | q
        ·exact q
        ·rw [show 15-ZgF 0 ns=0 by omega] at e1;simp at e1
       have:(2:Nat)^14=2^(15-ZgF 0 ns):=by rw [←e1]
       have hcases:ZgF 0 ns=1∨2≤ZgF 0 ns:=by omega
       rcases hcases with q | q
       ·omega
       ·have:2^(15-ZgF 0 ns)<2^14:=Nat.pow_lt_pow_right (by omega) (by omega)
        omega
     rw [this]
    ·rw [if_neg (by omega)]
     have:decide (Zfc ns=1∧Zbw ns=16384)=false:=by simp [hu]
     rw [this];rfl
 ·rw [if_pos (by omega),decide_eq_false hn];rfl
theorem Zav {i:Nat}:(decide ((0:Int)≤(i:Int))&&true)=true:=by simp
theorem ZmV (ns:List Nat) (hn:ns.length≤1000000):∀(j i many:Nat),i+j=ns.length→many≤i→ZcK.l0 (j+1) (zs ns,(many:Int),(i:Int))=some ((many+Zfc (ns.drop i):Nat):Int)
 | 0,i,many,hi,h2=>by
  rw [ZcK.l0.succ];simp only [ZcK.l0.step,Zag]
  rw [ZaQ (by omega),List.drop_eq_nil_of_le (by omega)];rfl
 | j+1,i,many,hi,h2=>by
  have hlt:i<ns.length:=by omega
  have hd:ns.drop i=ns[i]::ns.drop (i+1):=List.drop_eq_getElem_cons hlt
  have hg:ns.getD i 0=ns[i]:=Zan hlt
  rw [ZcK.l0.succ];simp only [ZcK.l0.step,Zag]
  rw [ZaP hlt,cond_true,Zab _ Zav,Int.toNat_natCast,ZaJ,hg,hd]
  ((try simp (disch:=omega) only [Zas,Zaq,Zal,Zad,ZaD,Za8,Zaf,ZaG,ZaF,Zae,Option.map_some,cond_true,cond_false,Int.sub_zero,Int.toNat_natCast]);(try simp only [ZbG,Zen,Zes,ZaE,ZbU,if_true,if_false]))
  by_cases h0:0<ns[i]
  ·rw [if_pos (by omega),show (many:Int)+1=((many+1:Nat):Int) by omega,show (i:Int)+1=((i+1:Nat):Int) by omega,ZmV ns hn j (i+1) _ (by omega) (by omega)]
   simp only [Zfc,if_pos h0,Nat.add_assoc]
  ·rw [if_neg (by omega),show (i:Int)+1=((i+1:Nat):Int) by omega,ZmV ns hn j (i+1) _ (by omega) (by omega)]
   simp only [Zfc,if_neg h0,Nat.zero_add]
theorem ZrP (ns:List Nat) (hn:ns.length≤1000000):ZcK (zs ns)=some ((Zfc ns:Nat):Int):=by
 unfold ZcK
 have h:=ZmV ns hn ns.length 0 0 (by omega) (by omega)
 rw [show ((0:Nat):Int)=0 from rfl,List.drop_zero,Nat.zero_add] at h
 rw [Zag,ZaA,h];rfl
theorem Zha (ns:List Nat) (hn:ns.length≤1000000):∀(j i sum:Nat),i+j=ns.length→sum≤32768*i→
  ZaS.l0 (j+1) (zs ns,(sum:Int),(i:Int))=some (if (ns.drop i).all (fun n=>decide (n≤15)) then .inl (zs ns,((sum+Zbw (ns.drop i):Nat):Int)) else .inr false)
 | 0,i,sum,hi,h1=>by
  rw [ZaS.l0.succ];simp only [ZaS.l0.step,Zag]
  rw [ZaQ (by omega),List.drop_eq_nil_of_le (by omega)];rfl
 | j+1,i,sum,hi,h1=>by
  have hlt:i<ns.length:=by omega
  have hd:ns.drop i=ns[i]::ns.drop (i+1):=List.drop_eq_getElem_cons hlt
  have hg:ns.getD i 0=ns[i]:=Zan hlt
  rw [ZaS.l0.succ];simp only [ZaS.l0.step,Zag]
  rw [ZaP hlt,cond_true,Zab _ Zav,Int.toNat_natCast,ZaJ,hg,Zl1,hd,List.all_cons]
  simp only [Zae]
  by_cases h15:ns[i]≤15
  ·have e1:decide ((0:Int)≤(ns[i]:Int)∧(ns[i]:Int)≤15)=true:=by simp;omega
   rw [e1,decide_eq_true h15,Bool.true_and]
   simp only [Bool.not_true,cond_false,ZbG]
   rw [Zab _ Zav]
   by_cases h0:0<ns[i]
   ·have hp:2^(15-ns[i])≤2^15:=Nat.pow_le_pow_right (by omega) (by omega)
    have hp0:0<2^(15-ns[i]):=Nat.two_pow_pos _
    rw [if_pos (by omega),Zab _ Zav,Zaf (by omega) (by omega),show 15-(ns[i]:Int)=((15-ns[i]:Nat):Int) by omega,Zir _ (by omega)]
    ((try simp (disch:=omega) only [Zas,Zaq,Zal,Zad,ZaD,Za8,Zaf,ZaG,ZaF,Zae,Option.map_some,cond_true,cond_false,Int.sub_zero,Int.toNat_natCast]);(try simp only [ZbG,Zen,Zes,ZaE,ZbU,if_true,if_false]))
    rw [show (sum:Int)+((2^(15-ns[i]):Nat):Int)=((sum+2^(15-ns[i]):Nat):Int) by omega,show (i:Int)+1=((i+1:Nat):Int) by omega,
     Zha ns hn j (i+1) _ (by omega) (by omega)]
    simp only [Zbw,if_pos h0,Nat.add_assoc]
   ·rw [if_neg (by omega)]
    ((try simp (disch:=omega) only [Zas,Zaq,Zal,Zad,ZaD,Za8,Zaf,ZaG,ZaF,Zae,Option.map_some,cond_true,cond_false,Int.sub_zero,Int.toNat_natCast]);(try simp only [ZbG,Zen,Zes,ZaE,ZbU,if_true,if_false]))
    rw [show (i:Int)+1=((i+1:Nat):Int) by omega,Zha ns hn j (i+1) _ (by omega) (by omega)]
    simp only [Zbw,if_neg h0,Nat.zero_add]
  ·have e1:decide ((0:Int)≤(ns[i]:Int)∧(ns[i]:Int)≤15)=false:=by simp;omega
   rw [e1,decide_eq_false h15]
   rfl
theorem ZfE (ns:List Nat) (hn:ns.length≤1000000):ZaS (zs ns)=some (Zde ns):=by
 unfold ZaS Zde
 have h:=Zha ns hn ns.length 0 0 (by omega) (by omega)
 rw [show ((0:Nat):Int)=0 from rfl,List.drop_zero,Nat.zero_add] at h
 rw [Zag,ZaA,h]
 cases hall:ns.all (fun n=>decide (n≤15)) with
 | false=>rw [Bool.false_and,Bool.and_false];rfl
 | true=>
  simp only [if_true,Zae,Bool.true_and,ZrP ns hn,Zag]
  have p14:=Zir 14 (by omega)
  have p15:=Zir 15 (by omega)
  rw [show ((14:Nat):Int)=14 from rfl] at p14
  rw [show ((15:Nat):Int)=15 from rfl] at p15
  rw [p14,p15]
  simp only [Zae]
  have one:((bif ((Zfc ns:Nat):Int)==1 then some (((Zbw ns:Nat):Int)==((2^14:Nat):Int)) else some false):Option Bool)=some (decide (Zfc ns=1∧Zbw ns=16384)):=by
   by_cases hu:Zfc ns=1
   ·have e:(((Zfc ns:Nat):Int)==1)=true:=by simp [hu]
    rw [e,cond_true]
    congr 1
    rw [Bool.eq_iff_iff,beq_iff_eq,decide_eq_true_eq]
    omega
   ·have e:(((Zfc ns:Nat):Int)==1)=false:=by simp;omega
    rw [e];simp [hu]
  rw [one]
  simp only [Zae]
  by_cases h3:ns.length≤300
  ·have e:decide ((ns.length:Int)≤300)=true:=by simp;omega
   rw [e,cond_true,decide_eq_true h3]
   by_cases hk:Zbw ns=32768
   ·have e:(((Zbw ns:Nat):Int)==((2^15:Nat):Int))=true:=by simp [hk]
    rw [e,decide_eq_true hk];rfl
   ·have e:(((Zbw ns:Nat):Int)==((2^15:Nat):Int))=false:=by rw [beq_eq_false_iff_ne];omega
    rw [e,decide_eq_false hk];rfl
  ·have e:decide ((ns.length:Int)≤300)=false:=by simp;omega
   rw [e,decide_eq_false h3];rfl
end Ev
end
section
namespace Ev
open Go
def base (ns:List Nat):Nat→Nat
 | 0=>0
 | 1=>0
 | l+2=>2*(base ns (l+1)+ns.count (l+1))
def Zdv (ns:List Nat) (i:Nat):Nat:=base ns (ns.getD i 0)+(ns.take i).count (ns.getD i 0)
def Zfs (ns:List Nat) (l i:Nat):List Nat:=(List.range ns.length).map fun j=>if (1≤ns.getD j 0∧ns.getD j 0<l)∨(1≤l∧ns.getD j 0=l∧j<i) then Zdv ns j else 0
def Zb7 (ns:List Nat):List Nat:=Zfs ns 16 0
theorem Zu9 (ns:List Nat):∀l,base ns (l+1)+2*ns.length≤ns.length*2^(l+1)
 | 0=>by simp [base];omega
 | l+1=>by
  have ih:=Zu9 ns l
  have hc:=List.count_le_length (a:=l+1) (l:=ns)
  have h1:ns.length*2^(l+1+1)=2*(ns.length*2^(l+1)):=by rw [Nat.pow_succ,←Nat.mul_assoc,Nat.mul_comm]
  have e:base ns (l+1+1)=2*(base ns (l+1)+ns.count (l+1)):=rfl
  omega
theorem ZiA (ns:List Nat) (hn:ns.length≤1000) (l:Nat) (hl:l≤16):base ns l≤100000000:=by
 cases l with
 | zero=>simp [base]
 | succ l=>
  have h:=Zu9 ns l
  have hp:2^(l+1)≤2^16:=Nat.pow_le_pow_right (by omega) hl
  have:ns.length*2^(l+1)≤1000*2^16:=Nat.mul_le_mul hn hp
  omega
theorem ZhO (ns:List Nat) (l i:Nat):(Zfs ns l i).length=ns.length:=by simp [Zfs]
theorem Zoq (ns:List Nat) (l:Nat) (hl:1≤l):Zfs ns l ns.length=Zfs ns (l+1) 0:=by
 unfold Zfs
 apply List.map_congr_left
 intro j hj
 have hj:=List.mem_range.1 hj
 by_cases h:(1≤ns.getD j 0∧ns.getD j 0<l)∨(1≤l∧ns.getD j 0=l∧j<ns.length)
 ·rw [if_pos h,if_pos (by omega)]
 ·rw [if_neg h,if_neg (by omega)]
theorem Zop (ns:List Nat):Zfs ns 1 0=List.replicate ns.length 0:=by
 apply List.ext_getElem
 ·simp [Zfs]
 ·intro i h1 h2
  simp only [Zfs,List.getElem_map,List.getElem_range,List.getElem_replicate]
  rw [if_neg (by omega)]
theorem ZqT (ns:List Nat) (l i:Nat) (hl:1≤l) (hi:i<ns.length):Zfs ns l (i+1)=if ns.getD i 0=l then (Zfs ns l i).set i (base ns l+(ns.take i).count l) else Zfs ns l i:=by
 apply List.ext_getElem
 ·split<;>simp [Zfs]
 ·intro j h1 h2
  have hj:j<ns.length:=by simpa [Zfs] using h1
  by_cases hc:ns.getD i 0=l
  ·simp only [if_pos hc,List.getElem_set]
   by_cases e:i=j
   ·subst e
    rw [if_pos rfl]
    simp only [Zfs,List.getElem_map,List.getElem_range]
    rw [if_pos (by omega)]
    unfold Zdv;rw [hc]
   ·rw [if_neg e]
    simp only [Zfs,List.getElem_map,List.getElem_range]
    by_cases h:(1≤ns.getD j 0∧ns.getD j 0<l)∨(1≤l∧ns.getD j 0=l∧j<i)
    ·rw [if_pos h,if_pos (by omega)]
    ·rw [if_neg h,if_neg (by omega)]
  ·simp only [if_neg hc]
   simp only [Zfs,List.getElem_map,List.getElem_range]
   by_cases h:(1≤ns.getD j 0∧ns.getD j 0<l)∨(1≤l∧ns.getD j 0=l∧j<i)
   ·rw [if_pos h,if_pos (by omega)]
   ·rw [if_neg h]
    by_cases e:j=i
    ·subst e;rw [if_neg (by omega)]
    ·rw [if_neg (by omega)]
theorem ZeJ (ns:List Nat) (l i:Nat) (hi:i<ns.length):(ns.take (i+1)).count l=(ns.take i).count l+if ns.getD i 0=l then 1 else 0:=by
 rw [List.take_succ_eq_append_getElem hi,List.count_append,Zan hi]
 by_cases h:ns[i]=l<;>simp [h]
theorem Zu4 (ns:List Nat) (hn:ns.length≤1000) (l:Nat) (hl:1≤l) (hl15:l≤15):∀(j i:Nat),i+j=ns.length→
  ZcC.l0 (j+1) (zs ns,((base ns l+(ns.take i).count l:Nat):Int),(l:Int),zs ns,(ns.length:Int),(i:Int),zs (Zfs ns l i))=some (zs ns,((base ns l+ns.count l:Nat):Int),(l:Int),zs (Zfs ns (l+1) 0))
 | 0,i,hi=>by
  have:i=ns.length:=by omega
  subst this
  rw [ZcC.l0.succ];simp only [ZcC.l0.step,Zag]
  rw [ZaQ (by omega),List.take_length,Zoq ns l hl];rfl
 | j+1,i,hi=>by
  have hlt:i<ns.length:=by omega
  have ih:=Zu4 ns hn l hl hl15 j (i+1) (by omega)
  have hb:=ZiA ns hn l (by omega)
  have hc:=List.count_le_length (a:=l) (l:=ns.take i)
  rw [List.length_take] at hc
  rw [ZeJ ns l i hlt,ZqT ns l i hl hlt] at ih
  rw [ZcC.l0.succ];simp only [ZcC.l0.step,Zag,ZhO]
  rw [ZaP hlt,cond_true,Zab _ Zav,Int.toNat_natCast,ZaJ]
  ((try simp (disch:=omega) only [Zas,Zaq,Zal,Zad,ZaD,Za8,Zaf,ZaG,ZaF,Zae,Option.map_some,cond_true,cond_false,Int.sub_zero,Int.toNat_natCast]);(try simp only [ZbG,Zen,Zes,ZaE,ZbU,if_true,if_false]))
  by_cases h:ns.getD i 0=l
  ·rw [if_pos (by omega),Zab _ Zav,show (i:Int)+1=((i+1:Nat):Int) by omega,show ((base ns l+(ns.take i).count l:Nat):Int)+1=((base ns l+((ns.take i).count l+1):Nat):Int) by omega,ZfR]
   rw [if_pos h,if_pos h] at ih
   rw [ih]
  ·rw [if_neg (by omega),show (i:Int)+1=((i+1:Nat):Int) by omega]
   rw [if_neg h,if_neg h] at ih
   simp only [Nat.add_zero] at ih
   rw [ih]
theorem Zu3 (ns:List Nat) (hn:ns.length≤1000):∀(j l:Nat),l+j=16→1≤l→ZcC.l1 (j+1) (zs ns,((base ns l:Nat):Int),(l:Int),zs (Zfs ns l 0))=some (zs (Zb7 ns))
 | 0,l,hl,h1=>by
  have:l=16:=by omega
  subst this
  rw [ZcC.l1.succ];simp only [ZcC.l1.step]
  rfl
 | j+1,l,hl,h1=>by
  have ih:=Zu3 ns hn j (l+1) (by omega) (by omega)
  have h0:=Zu4 ns hn l h1 (by omega) ns.length 0 (by omega)
  have hb:=ZiA ns hn l (by omega)
  have hc:=List.count_le_length (a:=l) (l:=ns)
  rw [List.take_zero,List.count_nil,show ((0:Nat):Int)=0 from rfl] at h0
  simp only [Nat.add_zero] at h0
  rw [ZcC.l1.succ];simp only [ZcC.l1.step,Zag]
  ((try simp (disch:=omega) only [Zas,Zaq,Zal,Zad,ZaD,Za8,Zaf,ZaG,ZaF,Zae,Option.map_some,cond_true,cond_false,Int.sub_zero,Int.toNat_natCast]);(try simp only [ZbG,Zen,Zes,ZaE,ZbU,if_true,if_false]))
  rw [if_pos (by omega),h0]
  simp only [Zae]
  ((try simp (disch:=omega) only [Zas,Zaq,Zal,Zad,ZaD,Za8,Zaf,ZaG,ZaF,Zae,Option.map_some,cond_true,cond_false,Int.sub_zero,Int.toNat_natCast]);(try simp only [ZbG,Zen,Zes,ZaE,ZbU,if_true,if_false]))
  have e:base ns (l+1)=2*(base ns l+ns.count l):=by
   cases l with
   | zero=>omega
   | succ l=>rfl
  rw [show ((base ns l+ns.count l:Nat):Int)*2=((base ns (l+1):Nat):Int) by rw [e];omega,show (l:Int)+1=((l+1:Nat):Int) by omega,ih]
theorem Zl8 (ns:List Nat) (hn:ns.length≤1000):ZcC (zs ns)=some (zs (Zb7 ns)):=by
 unfold ZcC
 have h:=Zu3 ns hn 15 1 (by omega) (by omega)
 rw [Zop,←Zgf] at h
 rw [Zag,Zal (by omega) (by rw [Int.toNat_natCast];omega),Int.toNat_natCast]
 rw [show ((15:Int)-1).toNat+2=15+1 from rfl]
 have e:((base ns 1:Nat):Int)=0:=rfl
 rw [e,show ((1:Nat):Int)=1 from rfl,show ((0:Nat):Int)=0 from rfl] at h
 rw [h];rfl
theorem ZoZ (ns:List Nat) (hn:ns.length≤1000) (l:Nat) (hl:1≤l) (hl15:l≤15):∀(j i:Nat),i+j=ns.length→
  ZaO.l0 (j+1) (zs ns,((base ns l+(ns.take i).count l:Nat):Int),(l:Int),(i:Int),zs (Zfs ns l i))=some (zs ns,((base ns l+ns.count l:Nat):Int),(l:Int),zs (Zfs ns (l+1) 0))
 | 0,i,hi=>by
  have:i=ns.length:=by omega
  subst this
  rw [ZaO.l0.succ];simp only [ZaO.l0.step,Zag]
  rw [ZaQ (by omega),List.take_length,Zoq ns l hl];rfl
 | j+1,i,hi=>by
  have hlt:i<ns.length:=by omega
  have ih:=ZoZ ns hn l hl hl15 j (i+1) (by omega)
  have hb:=ZiA ns hn l (by omega)
  have hc:=List.count_le_length (a:=l) (l:=ns.take i)
  rw [List.length_take] at hc
  rw [ZeJ ns l i hlt,ZqT ns l i hl hlt] at ih
  rw [ZaO.l0.succ];simp only [ZaO.l0.step,Zag,ZhO]
  rw [ZaP hlt,cond_true,Zab _ Zav,Int.toNat_natCast,ZaJ]
  ((try simp (disch:=omega) only [Zas,Zaq,Zal,Zad,ZaD,Za8,Zaf,ZaG,ZaF,Zae,Option.map_some,cond_true,cond_false,Int.sub_zero,Int.toNat_natCast]);(try simp only [ZbG,Zen,Zes,ZaE,ZbU,if_true,if_false]))
  by_cases h:ns.getD i 0=l
  ·rw [if_pos (by omega),Zab _ Zav,show (i:Int)+1=((i+1:Nat):Int) by omega,show ((base ns l+(ns.take i).count l:Nat):Int)+1=((base ns l+((ns.take i).count l+1):Nat):Int) by omega,ZfR]
   rw [if_pos h,if_pos h] at ih
   rw [ih]
  ·rw [if_neg (by omega),show (i:Int)+1=((i+1:Nat):Int) by omega]
   rw [if_neg h,if_neg h] at ih
   simp only [Nat.add_zero] at ih
   rw [ih]
theorem ZoY (ns:List Nat) (hn:ns.length≤1000):∀(j l:Nat),l+j=16→1≤l→ZaO.l1 (j+1) (zs ns,((base ns l:Nat):Int),(l:Int),zs (Zfs ns l 0))=some (zs (Zb7 ns))
 | 0,l,hl,h1=>by
  have:l=16:=by omega
  subst this
  rw [ZaO.l1.succ];simp only [ZaO.l1.step]
  rfl
 | j+1,l,hl,h1=>by
  have ih:=ZoY ns hn j (l+1) (by omega) (by omega)
  have h0:=ZoZ ns hn l h1 (by omega) ns.length 0 (by omega)
  have hb:=ZiA ns hn l (by omega)
  have hc:=List.count_le_length (a:=l) (l:=ns)
  rw [List.take_zero,List.count_nil,show ((0:Nat):Int)=0 from rfl] at h0
  simp only [Nat.add_zero] at h0
  rw [ZaO.l1.succ];simp only [ZaO.l1.step,Zag]
  ((try simp (disch:=omega) only [Zas,Zaq,Zal,Zad,ZaD,Za8,Zaf,ZaG,ZaF,Zae,Option.map_some,cond_true,cond_false,Int.sub_zero,Int.toNat_natCast]);(try simp only [ZbG,Zen,Zes,ZaE,ZbU,if_true,if_false]))
  rw [if_pos (by omega),h0]
  simp only [Zae]
  ((try simp (disch:=omega) only [Zas,Zaq,Zal,Zad,ZaD,Za8,Zaf,ZaG,ZaF,Zae,Option.map_some,cond_true,cond_false,Int.sub_zero,Int.toNat_natCast]);(try simp only [ZbG,Zen,Zes,ZaE,ZbU,if_true,if_false]))
  have e:base ns (l+1)=2*(base ns l+ns.count l):=by
   cases l with
   | zero=>omega
   | succ l=>rfl
  rw [show 2*((base ns l+ns.count l:Nat):Int)=((base ns (l+1):Nat):Int) by rw [e];omega,show (l:Int)+1=((l+1:Nat):Int) by omega,ih]
theorem Ze3 (ns:List Nat) (hn:ns.length≤1000):ZaO (zs ns)=some (zs (Zb7 ns)):=by
 unfold ZaO
 have h:=ZoY ns hn 15 1 (by omega) (by omega)
 rw [Zop,←Zgf] at h
 rw [Zag,Zal (by omega) (by rw [Int.toNat_natCast];omega),Int.toNat_natCast]
 rw [show ((15:Int)-1).toNat+2=15+1 from rfl]
 have e:((base ns 1:Nat):Int)=0:=rfl
 rw [e,show ((1:Nat):Int)=1 from rfl,show ((0:Nat):Int)=0 from rfl] at h
 rw [h];rfl
def Zfo (ns:List Nat) (k c l:Nat):Option Nat:=(List.range k).find? fun i=>decide (0<ns.getD i 0)&&(decide (ns.getD i 0=l)&&decide (Zdv ns i=c))
theorem Zym (ns:List Nat) {i j:Nat} (hi:i<ns.length) (hj:j<ns.length) (hl:ns.getD i 0=ns.getD j 0) (hc:Zdv ns i=Zdv ns j):i=j:=by
 have key:∀{i j:Nat},i<j→j<ns.length→ns.getD i 0=ns.getD j 0→Zdv ns i<Zdv ns j:=fun {i j} hij hj hl=>by
  unfold Zdv
  rw [hl]
  have h1:=ZeJ ns (ns.getD j 0) i (by omega)
  rw [if_pos hl] at h1
  have h2:(ns.take (i+1)).count (ns.getD j 0)≤(ns.take j).count (ns.getD j 0):=by
   have:ns.take (i+1)=(ns.take j).take (i+1):=by rw [List.take_take,Nat.min_eq_left (by omega)]
   rw [this]
   exact (List.take_sublist _ _).count_le _
  omega
 rcases Nat.lt_trichotomy i j with h | h | h
 ·have:=key h hj hl;omega
 ·exact h
 ·have:=key h hi hl.symm;omega
theorem Ziv {ns:List Nat} {k c l i:Nat} (h:Zfo ns k c l=some i):i<k∧0<ns.getD i 0∧ns.getD i 0=l∧Zdv ns i=c:=by
 unfold Zfo at h
 have h1:=List.find?_some h
 have h2:=List.mem_of_find?_eq_some h
 simp only [Bool.and_eq_true,decide_eq_true_eq] at h1
 exact ⟨List.mem_range.1 h2,h1⟩
theorem Zqg {ns:List Nat} {k i:Nat} (hk:k≤ns.length) (hi:i<k) (h0:0<ns.getD i 0):Zfo ns k (Zdv ns i) (ns.getD i 0)=some i:=by
 cases h:Zfo ns k (Zdv ns i) (ns.getD i 0) with
 | none=>
  unfold Zfo at h
  have:=List.find?_eq_none.1 h i (List.mem_range.2 hi)
  exact absurd (by simp only [Bool.and_eq_true,decide_eq_true_eq];exact ⟨h0,trivial,trivial⟩) this
 | some j=>
  obtain ⟨h1,h2,h3,h4⟩:=Ziv h
  rw [Zym ns (by omega) (by omega) h3 h4]
theorem ZkV (ns:List Nat) (k c l:Nat) (hk:k<ns.length):Zfo ns (k+1) c l=if 0<ns.getD k 0∧ns.getD k 0=l∧Zdv ns k=c then some k else Zfo ns k c l:=by
 by_cases h:0<ns.getD k 0∧ns.getD k 0=l∧Zdv ns k=c
 ·rw [if_pos h]
  obtain ⟨h1,rfl,rfl⟩:=h
  exact Zqg (by omega) (by omega) h1
 ·rw [if_neg h]
  unfold Zfo
  rw [List.range_succ,List.find?_append]
  have:List.find? (fun i=>decide (0<ns.getD i 0)&&(decide (ns.getD i 0=l)&&decide (Zdv ns i=c))) [k]=none:=by
   rw [List.find?_cons]
   have:(decide (0<ns.getD k 0)&&(decide (ns.getD k 0=l)&&decide (Zdv ns k=c)))=false:=by
    rw [Bool.eq_false_iff];intro hh;simp only [Bool.and_eq_true,decide_eq_true_eq] at hh;exact h hh
   rw [this];rfl
  rw [this]
  cases List.find? (fun i=>decide (0<ns.getD i 0)&&(decide (ns.getD i 0=l)&&decide (Zdv ns i=c))) (List.range k)<;>rfl
def ZsQ (ns:List Nat) (k:Nat) (es:List ((Int×Int)×Int)):Prop:=∀c l:Nat,ZeC [.int .i64,.int .i64] [.int .i64] es ((c:Int),(l:Int))=(Zfo ns k c l).map fun (n:Nat)=>(n:Int)
theorem ZvI (es:List ((Int×Int)×Int)) (k k':Int×Int) (v:Int):ZeC [.int .i64,.int .i64] [.int .i64] (Zfx [.int .i64,.int .i64] [.int .i64] es k v) k'=if k'=k then some v else ZeC [.int .i64,.int .i64] [.int .i64] es k':=by
 have eqb:∀a b:Int×Int,El.eqb [.int .i64,.int .i64] a b=decide (a=b):=fun a b=>by
  rw [Bool.eq_iff_iff]
  simp only [El.eqb,Sc.eqb,Bool.and_true,Bool.and_eq_true,beq_iff_eq,decide_eq_true_eq]
  exact ⟨fun h=>Prod.ext h.1 h.2,fun h=>by rw [h];exact ⟨rfl,rfl⟩⟩
 induction es with
 | nil=>
  simp only [Zfx,ZeC,eqb]
  by_cases h:k'=k<;>simp [h]
 | cons e r ih=>
  simp only [Zfx,eqb]
  by_cases h1:k=e.1
  ·rw [decide_eq_true h1,cond_true]
   simp only [ZeC,eqb]
   by_cases h:k'=k
   ·simp [h]
   ·have:¬k'=e.1:=fun x=>h (x.trans h1.symm)
    simp [h,this]
  ·rw [decide_eq_false h1,cond_false]
   simp only [ZeC,eqb]
   by_cases h:k'=e.1
   ·have:¬k'=k:=fun x=>h1 (x.symm.trans h)
    rw [decide_eq_true h,cond_true,cond_true,if_neg this]
   ·rw [decide_eq_false h,cond_false,cond_false];exact ih
end Ev
end
section
namespace Ev
open Go
theorem Zdu (ns:List Nat):(Zb7 ns).length=ns.length:=ZhO ns 16 0
theorem Zg3 (ns:List Nat) (h15:∀n∈ns,n≤15) (i:Nat) (hi:i<ns.length) (h0:0<ns.getD i 0):(Zb7 ns).getD i 0=Zdv ns i:=by
 have hm:ns.getD i 0≤15:=by rw [Zan hi];exact h15 _ (List.getElem_mem hi)
 rw [Zan (by rw [Zdu];exact hi)]
 simp only [Zb7,Zfs,List.getElem_map,List.getElem_range]
 rw [if_pos (by omega)]
theorem ZnI (ns:List Nat) (hn:ns.length≤1000) (h15:∀n∈ns,n≤15):∀(j i:Nat) (es:List ((Int×Int)×Int)),i+j=ns.length→ZsQ ns i es→
  Ret (Zck.l0 (j+1) (zs ns,(ns.length:Int),(i:Int),es,zs (Zb7 ns))) (ZsQ ns ns.length)
 | 0,i,es,hi,h=>by
  have:i=ns.length:=by omega
  subst this
  rw [Zck.l0.succ];simp only [Zck.l0.step]
  rw [ZaQ (by omega)];exact .pure h
 | j+1,i,es,hi,h=>by
  have hlt:i<ns.length:=by omega
  have hm:ns.getD i 0≤15:=by rw [Zan hlt];exact h15 _ (List.getElem_mem hlt)
  rw [Zck.l0.succ];simp only [Zck.l0.step,Zag,Zdu]
  rw [ZaP hlt,cond_true,Zab _ Zav,Zab _ Zav,Int.toNat_natCast,ZaJ,ZaJ]
  ((try simp (disch:=omega) only [Zas,Zaq,Zal,Zad,ZaD,Za8,Zaf,ZaG,ZaF,Zae,Option.map_some,cond_true,cond_false,Int.sub_zero,Int.toNat_natCast]);(try simp only [ZbG,Zen,Zes,ZaE,ZbU,if_true,if_false]))
  by_cases h0:0<ns.getD i 0
  ·rw [if_pos (by omega),Zab _ Zav,show (i:Int)+1=((i+1:Nat):Int) by omega,Zg3 ns h15 i hlt h0]
   refine ZnI ns hn h15 j (i+1) _ (by omega) fun c l=>?_
   rw [ZvI,h c l,ZkV ns i c l hlt]
   by_cases hc:0<ns.getD i 0∧ns.getD i 0=l∧Zdv ns i=c
   ·rw [if_pos hc,if_pos (by obtain ⟨_,rfl,rfl⟩:=hc;rfl)];rfl
   ·rw [if_neg hc,if_neg (fun e=>hc ⟨h0,by have e2:(l:Int)=((ns.getD i 0:Nat):Int):=(Prod.mk.inj e).2;omega,by have e1:(c:Int)=((Zdv ns i:Nat):Int):=(Prod.mk.inj e).1;omega⟩)]
  ·rw [if_neg (by omega),show (i:Int)+1=((i+1:Nat):Int) by omega]
   refine ZnI ns hn h15 j (i+1) _ (by omega) fun c l=>?_
   rw [h c l,ZkV ns i c l hlt,if_neg (fun e=>h0 e.1)]
theorem Zk7 (ns:List Nat) (hn:ns.length≤1000) (h15:∀n∈ns,n≤15):Ret (Zck (zs ns)) (ZsQ ns ns.length):=by
 unfold Zck
 rw [Zl8 ns hn]
 simp only [Zae,Zag,Zdu]
 rw [ZaA]
 refine .bind (ZnI ns hn h15 ns.length 0 [] (by omega) fun c l=>?_) fun a ha=>.pure ha
 simp [ZeC,Zfo]
def ZfV (ns:List Nat):Nat→Nat→Nat→List Bool→Option (Nat×List Bool)
 | 0,_,_,_=>none
 | _+1,_,_,[]=>none
 | f+1,l,c,b::r=>match Zfo ns ns.length (2*c+b.toNat) l with
  | some i=>some (i,r)
  | none=>ZfV ns f (l+1) (2*c+b.toNat) r
def Zlz (ns:List Nat) (m:Option (List Bool)):Option (Nat×List Bool):=m.bind (ZfV ns 15 1 0)
def ZAV (s:Str) (x:Option (Nat×List Bool)) (v at_:Int) (bad:Bool):Prop:=match x with
 | some (i,l)=>v=(i:Int)∧Rs s at_ bad (some l)
 | none=>v=0∧Rs s at_ bad none
theorem Zow {s:Str} (hs:s.length≤1000000000) (ns:List Nat) (book:List ((Int×Int)×Int)) (hB:ZsQ ns ns.length book):∀(f l c:Nat) (at_:Int) (bad:Bool) (m:Option (List Bool)),l+f=16→c<2^l→Rs s at_ bad m→
  Ret (Zbn.l0 (f+1) ((c:Int),(l:Int),s,at_,bad,book)) fun r=>match m.bind (ZfV ns f l c) with
   | some (i,l')=>∃a,r=.inr ((i:Int),s,a,false,book)∧Rs s a false (some l')
   | none=>∃a b,r=.inl (s,a,b,book)∧∃m',Rs s a b m'
 | 0,l,c,at_,bad,m,hf,hc,h=>by
  rw [Zbn.l0.succ];simp only [Zbn.l0.step]
  ((try simp (disch:=omega) only [Zas,Zaq,Zal,Zad,ZaD,Za8,Zaf,ZaG,ZaF,Zae,Option.map_some,cond_true,cond_false,Int.sub_zero,Int.toNat_natCast]);(try simp only [ZbG,Zen,Zes,ZaE,ZbU,if_true,if_false]))
  rw [if_neg (by omega)]
  have:m.bind (ZfV ns 0 l c)=none:=by cases m<;>rfl
  rw [this]
  exact .pure ⟨at_,bad,rfl,_,h⟩
 | f+1,l,c,at_,bad,m,hf,hc,h=>by
  have hp:2^l≤2^15:=Nat.pow_le_pow_right (by omega) (by omega)
  rw [Zbn.l0.succ];simp only [Zbn.l0.step]
  ((try simp (disch:=omega) only [Zas,Zaq,Zal,Zad,ZaD,Za8,Zaf,ZaG,ZaF,Zae,Option.map_some,cond_true,cond_false,Int.sub_zero,Int.toNat_natCast]);(try simp only [ZbG,Zen,Zes,ZaE,ZbU,if_true,if_false]))
  rw [if_pos (by omega)]
  refine .bind (ZkB hs h) ?_
  rintro ⟨r,s',at',bad'⟩ ⟨rfl,b,rfl,h2,h3⟩
  dsimp only at h2 h3 ⊢
  have hb:b.toNat≤1:=by cases b<;>decide
  ((try simp (disch:=omega) only [Zas,Zaq,Zal,Zad,ZaD,Za8,Zaf,ZaG,ZaF,Zae,Option.map_some,cond_true,cond_false,Int.sub_zero,Int.toNat_natCast]);(try simp only [ZbG,Zen,Zes,ZaE,ZbU,if_true,if_false]))
  rw [show 2*(c:Int)+((b.toNat:Nat):Int)=((2*c+b.toNat:Nat):Int) by omega,show (l:Int)+1=((l+1:Nat):Int) by omega,hB _ _]
  have go:∀m2,Rs s' at' bad' m2→Ret (Zbn.l0 (f+1) (((2*c+b.toNat:Nat):Int),((l+1:Nat):Int),s',at',bad',book)) fun r=>match m2.bind (ZfV ns f (l+1) (2*c+b.toNat)) with
   | some (i,l')=>∃a,r=.inr ((i:Int),s',a,false,book)∧Rs s' a false (some l')
   | none=>∃a b,r=.inl (s',a,b,book)∧∃m',Rs s' a b m':=fun m2 h4=>Zow hs ns book hB f (l+1) _ at' bad' m2 (by omega) (by rw [Nat.pow_succ];omega) h4
  have fail:Rs s' at' bad' none→m.bind (ZfV ns (f+1) l c)=none→Ret (((if ((Zfo ns ns.length (2*c+b.toNat) l).map fun (n:Nat)=>(n:Int)).isSome=true then some (!bad') else some false).bind fun c_1=>
    bif c_1 then some (Sum.inr (((Zfo ns ns.length (2*c+b.toNat) l).map fun (n:Nat)=>(n:Int)).getD 0,s',at',bad',book)) else Zbn.l0 (f+1) (((2*c+b.toNat:Nat):Int),((l+1:Nat):Int),s',at',bad',book))) fun r=>match m.bind (ZfV ns (f+1) l c) with
   | some (i,l')=>∃a,r=.inr ((i:Int),s',a,false,book)∧Rs s' a false (some l')
   | none=>∃a b,r=.inl (s',a,b,book)∧∃m',Rs s' a b m':=fun h4 e=>by
   rw [e]
   have hbad:bad'=true:=h4.1
   have e2:(if ((Zfo ns ns.length (2*c+b.toNat) l).map fun (n:Nat)=>(n:Int)).isSome=true then some (!bad') else some false)=some false:=by
    rw [hbad];split<;>rfl
   rw [e2]
   simp only [Zae,cond_false]
   exact go none h4
  have hform:∀(x:Option Int) (y z:Option (((Str×Int×Bool×List ((Int×Int)×Int))⊕(Int×Str×Int×Bool×List ((Int×Int)×Int))))),((bif x.isSome then some (!bad') else some false).bind fun c_1=>bif c_1 then y else z)=((if x.isSome=true then some (!bad') else some false).bind fun c_1=>bif c_1 then y else z):=fun x y z=>by cases x<;>rfl
  rw [hform]
  cases m with
  | none=>exact fail h2 rfl
  | some lst=>
   cases lst with
   | nil=>exact fail h2 rfl
   | cons b' l0=>
    have hbb:=h3 b' l0 rfl
    subst hbb
    have hbad:bad'=false:=h2.1
    subst hbad
    simp only [Option.bind_some,ZfV]
    cases hfi:Zfo ns ns.length (2*c+b.toNat) l with
    | some i=>
     simp only [Option.map_some,Option.isSome_some,if_true,Zae,Bool.not_false,cond_true,Option.getD_some]
     exact .pure ⟨at',rfl,h2⟩
    | none=>
     simp only [Option.map_none,Option.isSome_none,Zae,cond_false,Bool.false_eq_true,if_false]
     exact go (some l0) h2
theorem Zkz {s:Str} {at_:Int} {bad:Bool} {m:Option (List Bool)} (hs:s.length≤1000000000) (ns:List Nat) {book:List ((Int×Int)×Int)} (hB:ZsQ ns ns.length book) (h:Rs s at_ bad m) :
  Ret (Zbn s at_ bad book) fun r=>r.2.1=s∧r.2.2.2.2=book∧ZAV s (Zlz ns m) r.1 r.2.2.1 r.2.2.2.1:=by
 unfold Zbn
 have h0:=Zow hs ns book hB 15 1 0 at_ bad m (by omega) (by omega) h
 rw [show ((15:Int)-1).toNat+2=15+1 from rfl]
 refine .bind h0 fun r hr=>?_
 unfold Zlz
 cases hm:m.bind (ZfV ns 15 1 0) with
 | none=>
  rw [hm] at hr
  obtain ⟨a,b,rfl,m',h'⟩:=hr
  exact .pure ⟨rfl,rfl,rfl,h'.fail⟩
 | some x=>
  obtain ⟨i,l'⟩:=x
  rw [hm] at hr
  obtain ⟨a,rfl,h'⟩:=hr
  exact .pure ⟨rfl,rfl,rfl,h'⟩
theorem Zot (s:Str) (at_:Int) (bad:Bool) (ns:List Nat) (hn:ns.length≤1000) (h15:∀n∈ns,n≤15) (c l:Nat) (hl:1≤l):∀(j i:Nat),i+j=ns.length→Zfo ns i c l=none→
  ZaW.l0 (j+1) (zs ns,zs (Zb7 ns),(c:Int),(l:Int),(i:Int),s,at_,bad)=some (match Zfo ns ns.length c l with
   | some k=>.inr (.inr ((k:Int),s,at_,bad))
   | none=>.inl (zs ns,zs (Zb7 ns),(c:Int),(l:Int),s,at_,bad))
 | 0,i,hi,h=>by
  have:i=ns.length:=by omega
  subst this
  rw [ZaW.l0.succ];simp only [ZaW.l0.step,Zag]
  rw [ZaQ (by omega),h];rfl
 | j+1,i,hi,h=>by
  have hlt:i<ns.length:=by omega
  rw [ZaW.l0.succ];simp only [ZaW.l0.step,Zag,Zdu]
  rw [ZaP hlt,cond_true,Zab _ Zav,Zab _ Zav,Int.toNat_natCast,ZaJ,ZaJ]
  by_cases hc:0<ns.getD i 0∧ns.getD i 0=l∧Zdv ns i=c
  ·have hfull:Zfo ns ns.length c l=some i:=by
    obtain ⟨h1,rfl,rfl⟩:=hc
    exact Zqg (Nat.le_refl _) hlt h1
   obtain ⟨h1,h2,h3⟩:=hc
   have e1:(((ns.getD i 0:Nat):Int)==(l:Int))=true:=by rw [beq_iff_eq];omega
   have e2:((((Zb7 ns).getD i 0:Nat):Int)==(c:Int))=true:=by rw [Zg3 ns h15 i hlt h1,beq_iff_eq];omega
   rw [e1,e2,hfull]
   simp only [cond_true,Zae,Option.map_some]
  ·have hnext:Zfo ns (i+1) c l=none:=by rw [ZkV ns i c l hlt,if_neg hc];exact h
   have ih:=Zot s at_ bad ns hn h15 c l hl j (i+1) (by omega) hnext
   have e:(bif (((ns.getD i 0:Nat):Int)==(l:Int)) then (some ((((Zb7 ns).getD i 0:Nat):Int)==(c:Int))) else some false)=some false:=by
    by_cases h2:ns.getD i 0=l
    ·have e1:(((ns.getD i 0:Nat):Int)==(l:Int))=true:=by rw [beq_iff_eq];omega
     have e2:((((Zb7 ns).getD i 0:Nat):Int)==(c:Int))=false:=by
      rw [Zg3 ns h15 i hlt (by omega),beq_eq_false_iff_ne]
      intro h3;exact hc ⟨by omega,h2,by omega⟩
     rw [e1,e2];rfl
    ·have e1:(((ns.getD i 0:Nat):Int)==(l:Int))=false:=by rw [beq_eq_false_iff_ne];omega
     rw [e1];rfl
   rw [e]
   simp only [Zae,cond_false]
   rw [Zda (by omega),ih]
def ZzS (s:Str) (n:Nat) (x:Option (Nat×List Bool)) (v at_:Int) (bad:Bool):Prop:=match x with
 | some (i,l)=>v=(i:Int)∧Rs s at_ bad (some l)
 | none=>-1≤v∧v<n∧Rs s at_ bad none
theorem Zos {s:Str} (hs:s.length≤1000000000) (ns:List Nat) (hn:ns.length≤1000) (h15:∀n∈ns,n≤15):∀(f l c:Nat) (at_:Int) (bad:Bool) (m:Option (List Bool)),l+f=16→1≤l→c<2^l→Rs s at_ bad m→
  Ret (ZaW.l1 (f+1) (zs ns,zs (Zb7 ns),(c:Int),(l:Int),s,at_,bad)) fun r=>match m.bind (ZfV ns f l c) with
   | some (i,l')=>∃a,r=.inr ((i:Int),s,a,false)∧Rs s a false (some l')
   | none=>(∃a b,r=.inl (s,a,b)∧∃m',Rs s a b m')∨(∃k a,k<ns.length∧r=.inr ((k:Int),s,a,true)∧Rs s a true none)
 | 0,l,c,at_,bad,m,hf,h1,hc,h=>by
  rw [ZaW.l1.succ];simp only [ZaW.l1.step]
  ((try simp (disch:=omega) only [Zas,Zaq,Zal,Zad,ZaD,Za8,Zaf,ZaG,ZaF,Zae,Option.map_some,cond_true,cond_false,Int.sub_zero,Int.toNat_natCast]);(try simp only [ZbG,Zen,Zes,ZaE,ZbU,if_true,if_false]))
  rw [if_neg (by omega)]
  have:m.bind (ZfV ns 0 l c)=none:=by cases m<;>rfl
  rw [this]
  exact .pure (.inl ⟨at_,bad,rfl,_,h⟩)
 | f+1,l,c,at_,bad,m,hf,h1,hc,h=>by
  have hp:2^l≤2^15:=Nat.pow_le_pow_right (by omega) (by omega)
  rw [ZaW.l1.succ];simp only [ZaW.l1.step,Zag]
  ((try simp (disch:=omega) only [Zas,Zaq,Zal,Zad,ZaD,Za8,Zaf,ZaG,ZaF,Zae,Option.map_some,cond_true,cond_false,Int.sub_zero,Int.toNat_natCast]);(try simp only [ZbG,Zen,Zes,ZaE,ZbU,if_true,if_false]))
  rw [if_pos (by omega)]
  simp only [Zae]
  cases bad with
  | true=>
   have hm:m=none:=by cases m with
    | none=>rfl
    | some l=>exact absurd h.1 (by simp)
   subst hm
   exact .pure (.inl ⟨at_,true,rfl,_,h⟩)
  | false=>
  simp only [Bool.not_false,cond_true]
  refine .bind (Zs8 hs h) ?_
  rintro ⟨r,s',at',bad'⟩ ⟨rfl,b,rfl,h2,h3⟩
  dsimp only at h2 h3 ⊢
  have hb:b.toNat≤1:=by cases b<;>decide
  ((try simp (disch:=omega) only [Zas,Zaq,Zal,Zad,ZaD,Za8,Zaf,ZaG,ZaF,Zae,Option.map_some,cond_true,cond_false,Int.sub_zero,Int.toNat_natCast]);(try simp only [ZbG,Zen,Zes,ZaE,ZbU,if_true,if_false]))
  have h0:=Zot s' at' bad' ns hn h15 (2*c+b.toNat) l h1 ns.length 0 (by omega) (by simp [Zfo])
  rw [show ((0:Nat):Int)=0 from rfl] at h0
  rw [show 2*(c:Int)+((b.toNat:Nat):Int)=((2*c+b.toNat:Nat):Int) by omega,h0]
  simp only [Zae]
  have go:∀m2,Rs s' at' bad' m2→Ret (ZaW.l1 (f+1) (zs ns,zs (Zb7 ns),((2*c+b.toNat:Nat):Int),((l+1:Nat):Int),s',at',bad')) fun r=>match m2.bind (ZfV ns f (l+1) (2*c+b.toNat)) with
   | some (i,l')=>∃a,r=.inr ((i:Int),s',a,false)∧Rs s' a false (some l')
   | none=>(∃a b,r=.inl (s',a,b)∧∃m',Rs s' a b m')∨(∃k a,k<ns.length∧r=.inr ((k:Int),s',a,true)∧Rs s' a true none):=fun m2 h4=>Zos hs ns hn h15 f (l+1) _ at' bad' m2 (by omega) (by omega) (by rw [Nat.pow_succ];omega) h4
  have hfail:Rs s' at' bad' none→m.bind (ZfV ns (f+1) l c)=none→Ret (match (match Zfo ns ns.length (2*c+b.toNat) l with
     | some k=>(Sum.inr (Sum.inr ((k:Int),s',at',bad')):(List Int×List Int×Int×Int×Str×Int×Bool)⊕((Str×Int×Bool)⊕(Int×Str×Int×Bool)))
     | none=>.inl (zs ns,zs (Zb7 ns),((2*c+b.toNat:Nat):Int),(l:Int),s',at',bad')) with
    | .inl (lens3,codes_3,code_2,n2,o6,o7,o8)=>ZaW.l1 (f+1) (lens3,codes_3,code_2,w64 (n2+1),o6,o7,o8)
    | .inr r=>some r) fun r=>match m.bind (ZfV ns (f+1) l c) with
   | some (i,l')=>∃a,r=.inr ((i:Int),s',a,false)∧Rs s' a false (some l')
   | none=>(∃a b,r=.inl (s',a,b)∧∃m',Rs s' a b m')∨(∃k a,k<ns.length∧r=.inr ((k:Int),s',a,true)∧Rs s' a true none):=fun h4 e=>by
   rw [e]
   have hbad:bad'=true:=h4.1
   subst hbad
   cases hfi:Zfo ns ns.length (2*c+b.toNat) l with
   | some k=>exact .pure (.inr ⟨k,at',(Ziv hfi).1,rfl,h4⟩)
   | none=>
    dsimp only
    rw [Zda (by omega)]
    exact go none h4
  cases m with
  | none=>exact absurd h.1 (by simp)
  | some lst=>
   cases lst with
   | nil=>exact hfail h2 rfl
   | cons b' l0=>
    have hbb:=h3 b' l0 rfl
    subst hbb
    have hbad:bad'=false:=h2.1
    subst hbad
    simp only [Option.bind_some,ZfV]
    cases hfi:Zfo ns ns.length (2*c+b.toNat) l with
    | some i=>exact .pure ⟨at',rfl,h2⟩
    | none=>
     dsimp only
     rw [Zda (by omega)]
     exact go (some l0) h2
theorem Zku {s:Str} {at_:Int} {bad:Bool} {m:Option (List Bool)} (hs:s.length≤1000000000) (ns:List Nat) (hn:ns.length≤1000) (h15:∀n∈ns,n≤15) (h:Rs s at_ bad m) :
  Ret (ZaW (zs ns) (zs (Zb7 ns)) s at_ bad) fun r=>r.2.1=s∧ZzS s ns.length (Zlz ns m) r.1 r.2.2.1 r.2.2.2:=by
 unfold ZaW
 have h0:=Zos hs ns hn h15 15 1 0 at_ bad m (by omega) (by omega) (by omega) h
 rw [show ((15:Int)-1).toNat+2=15+1 from rfl]
 refine .bind h0 fun r hr=>?_
 unfold Zlz
 cases hm:m.bind (ZfV ns 15 1 0) with
 | none=>
  rw [hm] at hr
  rcases hr with ⟨a,b,rfl,m',h'⟩ | ⟨k,a,hk,rfl,h'⟩
  ·exact Ret.pure ⟨rfl,by dsimp only;omega,by dsimp only;omega,h'.fail⟩
  ·exact Ret.pure ⟨rfl,by dsimp only;omega,by dsimp only;omega,h'⟩
 | some x=>
  obtain ⟨i,l'⟩:=x
  rw [hm] at hr
  obtain ⟨a,rfl,h'⟩:=hr
  exact .pure ⟨rfl,rfl,h'⟩
end Ev
end
section
namespace Ev
open Go
def krU (L:Nat):List Nat→Nat
 | []=>0
 | n::r=>(if 0<n∧n≤L then 2^(15-n) else 0)+krU L r
theorem Zz0 (L:Nat):∀ns,krU L ns≤Zbw ns
 | []=>Nat.le_refl _
 | n::r=>by
  have:=Zz0 L r
  simp only [krU,Zbw]
  by_cases h:0<n∧n≤L
  ·rw [if_pos h,if_pos h.1];omega
  ·have:=Nat.two_pow_pos (15-n);rw [if_neg h];split<;>omega
theorem Zp4 (L:Nat):∀ns:List Nat,krU (L+1) ns=krU L ns+ns.count (L+1)*2^(15-(L+1))
 | []=>by simp [krU]
 | n::r=>by
  have ih:=Zp4 L r
  simp only [krU,List.count_cons,ih]
  by_cases h:n=L+1
  ·subst h
   rw [if_pos (by omega),if_neg (by omega)]
   simp only [beq_self_eq_true,if_true,Nat.add_mul,Nat.one_mul];omega
  ·have hb:(n==L+1)=false:=by simp [h]
   rw [hb]
   simp only [Bool.false_eq_true,if_false,Nat.add_zero]
   by_cases h2:0<n∧n≤L
   ·rw [if_pos h2,if_pos (by omega)];omega
   ·rw [if_neg h2,if_neg (by omega)];omega
theorem ZuF:∀ns:List Nat,krU 0 ns=0
 | []=>rfl
 | n::r=>by simp only [krU,ZuF r];rw [if_neg (by omega)]
theorem Zyv (ns:List Nat):∀L,L+1≤15→(base ns (L+1)+ns.count (L+1))*2^(15-(L+1))=krU (L+1) ns
 | 0,_=>by
  rw [Zp4,ZuF];simp [base]
 | L+1,h=>by
  have ih:=Zyv ns L (by omega)
  rw [Zp4,←ih]
  have e:base ns (L+1+1)=2*(base ns (L+1)+ns.count (L+1)):=rfl
  rw [e,Nat.add_mul,Nat.mul_comm 2,Nat.mul_assoc]
  congr 2
  rw [show 15-(L+1)=(15-(L+1+1))+1 by omega,Nat.pow_succ,Nat.mul_comm]
theorem Zyu (ns:List Nat) (hk:Zbw ns≤32768) (L:Nat) (h1:1≤L) (h15:L≤15):base ns L+ns.count L≤2^L:=by
 obtain ⟨l,rfl⟩:∃l,L=l+1:=⟨L-1,by omega⟩
 have h:=Zyv ns l h15
 have h2:=Zz0 (l+1) ns
 have:(base ns (l+1)+ns.count (l+1))*2^(15-(l+1))≤2^(l+1)*2^(15-(l+1)):=by
  rw [h,←Nat.pow_add,show l+1+(15-(l+1))=15 by omega]
  omega
 exact Nat.le_of_mul_le_mul_right this (Nat.two_pow_pos _)
theorem Zqo (ns:List Nat) (i:Nat) (hi:i<ns.length):(ns.take i).count (ns.getD i 0)<ns.count (ns.getD i 0):=by
 have h:=ZeJ ns (ns.getD i 0) i hi
 rw [if_pos rfl] at h
 have:(ns.take (i+1)).count (ns.getD i 0)≤ns.count (ns.getD i 0):=(List.take_sublist _ _).count_le _
 omega
theorem ZsA (ns:List Nat) (i:Nat) (hi:i<ns.length):Zdv ns i<base ns (ns.getD i 0)+ns.count (ns.getD i 0):=by
 have:=Zqo ns i hi
 unfold Zdv;omega
theorem Zu5 (ns:List Nat) (hk:Zbw ns≤32768) (h15:∀n∈ns,n≤15) (i:Nat) (hi:i<ns.length) (h0:0<ns.getD i 0):Zdv ns i<2^(ns.getD i 0):=by
 have hm:ns.getD i 0≤15:=by rw [Zan hi];exact h15 _ (List.getElem_mem hi)
 have h1:=ZsA ns i hi
 have h2:=Zyu ns hk _ h0 hm
 omega
theorem Zyt (ns:List Nat) (l:Nat) (h1:1≤l):∀d,(base ns l+ns.count l)*2^(d+1)≤base ns (l+d+1)
 | 0=>by
  obtain ⟨k,rfl⟩:∃k,l=k+1:=⟨l-1,by omega⟩
  have e:base ns (k+1+0+1)=2*(base ns (k+1)+ns.count (k+1)):=rfl
  rw [e];omega
 | d+1=>by
  have ih:=Zyt ns l h1 d
  obtain ⟨k,rfl⟩:∃k,l=k+1:=⟨l-1,by omega⟩
  have e:base ns (k+1+(d+1)+1)=2*(base ns (k+1+d+1)+ns.count (k+1+d+1)):=by
   rw [show k+1+(d+1)+1=(k+d+1)+2 by omega,show k+1+d+1=k+d+1+1 by omega];rfl
  rw [e,Nat.pow_succ,←Nat.mul_assoc];omega
theorem Zun (c L:Nat):∀l,l<L→(msb c L).drop l=c.testBit (L-1-l)::(msb c L).drop (l+1):=fun l hl=>by
 have hlen:(msb c L).length=L:=by simp [msb,Zaj]
 rw [List.drop_eq_getElem_cons (by omega)]
 congr 1
 simp only [msb]
 rw [List.getElem_reverse]
 simp only [Zaj]
 exact Zjx c L _ (by omega)
theorem Zoo (ns:List Nat) (hk:Zbw ns≤32768) (h15:∀n∈ns,n≤15) (i:Nat) (hi:i<ns.length) (h0:0<ns.getD i 0) (rest:List Bool):∀(d l:Nat),l+d=ns.getD i 0→1≤l→
  ZfV ns (16-l) l (Zdv ns i/2^(d+1)) ((msb (Zdv ns i) (ns.getD i 0)).drop (l-1)++rest)=some (i,rest)
 | 0,l,hl,h1=>by
  have hm:ns.getD i 0≤15:=by rw [Zan hi];exact h15 _ (List.getElem_mem hi)
  have hL:l=ns.getD i 0:=by omega
  rw [Zun _ _ (l-1) (by omega),show 16-l=(15-l)+1 by omega]
  simp only [List.cons_append,ZfV]
  have e:2*(Zdv ns i/2^(0+1))+(Nat.testBit (Zdv ns i) (ns.getD i 0-1-(l-1))).toNat=Zdv ns i:=by
   rw [show ns.getD i 0-1-(l-1)=0 by omega,←Zef];simp;omega
  rw [e,hL,Zqg (Nat.le_refl _) hi h0]
  dsimp only
  rw [List.drop_eq_nil_of_le (by simp [msb,Zaj];omega)];rfl
 | d+1,l,hl,h1=>by
  have hm:ns.getD i 0≤15:=by rw [Zan hi];exact h15 _ (List.getElem_mem hi)
  have ih:=Zoo ns hk h15 i hi h0 rest d (l+1) (by omega) (by omega)
  rw [Zun _ _ (l-1) (by omega),show 16-l=(16-(l+1))+1 by omega]
  simp only [List.cons_append,ZfV]
  have e:2*(Zdv ns i/2^(d+1+1))+(Nat.testBit (Zdv ns i) (ns.getD i 0-1-(l-1))).toNat=Zdv ns i/2^(d+1):=by
   rw [show ns.getD i 0-1-(l-1)=d+1 by omega,←Zef,Nat.pow_succ 2 (d+1),←Nat.div_div_eq_div_mul];omega
  rw [e]
  have hnone:Zfo ns ns.length (Zdv ns i/2^(d+1)) l=none:=by
   cases hf:Zfo ns ns.length (Zdv ns i/2^(d+1)) l with
   | none=>rfl
   | some j=>
    obtain ⟨hj,hj0,hjl,hjc⟩:=Ziv hf
    have t1:=ZsA ns j hj
    rw [hjl,hjc] at t1
    have t2:=Zyt ns l h1 d
    have t3:base ns (l+d+1)≤Zdv ns i:=by unfold Zdv;rw [show ns.getD i 0=l+d+1 by omega];omega
    have:(Zdv ns i/2^(d+1))+1≤base ns l+ns.count l:=t1
    have t4:=Nat.mul_le_mul_right (2^(d+1)) this
    have t5:=Nat.lt_mul_div_succ (Zdv ns i) (Nat.two_pow_pos (d+1))
    rw [Nat.mul_comm] at t5
    omega
  rw [hnone]
  dsimp only
  rw [show l-1+1=l+1-1 by omega]
  exact ih
theorem Zxk (ns:List Nat) (hk:Zbw ns≤32768) (h15:∀n∈ns,n≤15) (i:Nat) (hi:i<ns.length) (h0:0<ns.getD i 0) (rest:List Bool) :
  Zlz ns (some (msb (Zdv ns i) (ns.getD i 0)++rest))=some (i,rest):=by
 have h:=Zoo ns hk h15 i hi h0 rest (ns.getD i 0-1) 1 (by omega) (by omega)
 have hlt:=Zu5 ns hk h15 i hi h0
 rw [show ns.getD i 0-1+1=ns.getD i 0 by omega,Nat.div_eq_of_lt hlt] at h
 simpa [Zlz] using h
def Zjl (ns:List Nat) (i:Nat):List Bool:=msb ((Zb7 ns).getD i 0) (ns.getD i 0)
theorem ZAg (ns:List Nat) (h15:∀n∈ns,n≤15) (i:Nat) (hi:i<ns.length) (h0:0<ns.getD i 0):Zjl ns i=msb (Zdv ns i) (ns.getD i 0):=by
 unfold Zjl;rw [Zg3 ns h15 i hi h0]
theorem Zsz (ns:List Nat) (hk:Zbw ns≤32768) (h15:∀n∈ns,n≤15) (i:Nat) (hi:i<ns.length):(Zb7 ns).getD i 0<2^(ns.getD i 0):=by
 by_cases h0:0<ns.getD i 0
 ·rw [Zg3 ns h15 i hi h0];exact Zu5 ns hk h15 i hi h0
 ·have e:(Zb7 ns).getD i 0=0:=by
   rw [Zan (by rw [Zdu];exact hi)]
   simp only [Zb7,Zfs,List.getElem_map,List.getElem_range]
   rw [if_neg (by omega)]
  rw [e];exact Nat.two_pow_pos _
theorem Zjn (ns:List Nat) (hk:Zbw ns≤32768) (h15:∀n∈ns,n≤15) (i:Nat) (hi:i<ns.length) (l:List Bool) (hl:l.length≤80000000) :
  Zgz (zs ns) (zs (Zb7 ns)) (i:Int) (l.length:Int) (ZfG l)=some ((((l++Zjl ns i).length:Nat):Int),ZfG (l++Zjl ns i)):=by
 have hm:ns.getD i 0≤15:=by rw [Zan hi];exact h15 _ (List.getElem_mem hi)
 have hlt:=Zsz ns hk h15 i hi
 have hp:2^(ns.getD i 0)≤2^15:=Nat.pow_le_pow_right (by omega) hm
 have ht:=Zpw ((Zb7 ns).getD i 0) (ns.getD i 0)
 unfold Zgz
 rw [Zag,Zag,Zdu,Zab _ (Zaw hi),Zab _ (Zaw hi),Int.toNat_natCast,ZaJ,ZaJ,ZtS _ _ (by omega) hlt]
 simp only [Zae]
 rw [Zab _ (Zaw hi),ZeV _ _ (by omega) (by omega) l (by omega),Zro]
 rfl
theorem ZmF (ns:List Nat) (hk:Zbw ns≤32768) (h15:∀n∈ns,n≤15) (i:Nat) (hi:i<ns.length) (l:List Bool) (hl:l.length≤80000000) :
  Zn2 (zs ns) (zs (Zb7 ns)) (i:Int) (oL l:Int) ((l.length%8:Nat):Int) (oT l)=some ((oL (l++Zjl ns i):Int),(((l++Zjl ns i).length%8:Nat):Int),oT (l++Zjl ns i)):=by
 have hm:ns.getD i 0≤15:=by rw [Zan hi];exact h15 _ (List.getElem_mem hi)
 have hlt:=Zsz ns hk h15 i hi
 have hp:2^(ns.getD i 0)≤2^15:=Nat.pow_le_pow_right (by omega) hm
 have ht:=Zpw ((Zb7 ns).getD i 0) (ns.getD i 0)
 unfold Zn2 Ze2
 rw [Zag,Zag,Zdu,Zab _ (Zaw hi),Zab _ (Zaw hi),Int.toNat_natCast,ZaJ,ZaJ,ZxL _ _ (by omega) (by omega)]
 simp only [Zae]
 rw [Zab _ (Zaw hi)]
 simp only [Zae]
 rw [ZeB _ _ (by omega) (by omega) l (by omega),Zro]
 rfl
end Ev
end
section
namespace Ev
open Go
def Zsv (k:Nat):Nat→List Int→List Int
 | 0,out=>out
 | n+1,out=>Zsv k n (out++[out.getD (out.length-k) 0])
def ZqD (out:List Int) (l k:Nat):Option (List Int):=if l≤60∧k≤250∧k≤out.length then some (Zsv k l out) else none
theorem ZlI (k:Nat):∀n out,(Zsv k n out).length=out.length+n
 | 0,out=>rfl
 | n+1,out=>by rw [Zsv,ZlI k n];simp;omega
theorem Zz9 (b:Int) (l k:Nat) (hk:1≤k) (hl:l≤1000):∀(j i:Nat) (out:List Int),i+j=l→k≤out.length→out.length+j≤1000000→
  add.l0 (j+1) ((l:Int),(i:Int),out,b,(l:Int),(k:Int))=some (Zsv k j out)
 | 0,i,out,hi,h1,h2=>by
  rw [add.l0.succ];simp only [add.l0.step]
  rw [ZaQ (by omega)];rfl
 | j+1,i,out,hi,h1,h2=>by
  rw [add.l0.succ];simp only [add.l0.step]
  rw [ZaP (by omega),cond_true,Zaf (n:=(out.length:Int)-k) (by omega) (by omega),show (out.length:Int)-k=((out.length-k:Nat):Int) by omega,
   Zab _ (Zaw (by omega)),Int.toNat_natCast,Zad (by simp;omega),Zaf (by omega) (by omega),show (i:Int)+1=((i+1:Nat):Int) by omega,
   Zz9 b l k hk hl j (i+1) _ (by omega) (by simp;omega) (by simp;omega)]
  rfl
theorem ZuB (b:Int) (l k:Nat) (hk:1≤k) (hl:l≤1000):∀(j i:Nat) (out:List Int),i+j=l→k≤out.length→out.length+j≤1000000→
  Ze1.l0 (j+1) ((i:Int),out,b,(l:Int),(k:Int))=some (Zsv k j out)
 | 0,i,out,hi,h1,h2=>by
  rw [Ze1.l0.succ];simp only [Ze1.l0.step]
  rw [ZaQ (by omega)];rfl
 | j+1,i,out,hi,h1,h2=>by
  rw [Ze1.l0.succ];simp only [Ze1.l0.step]
  rw [ZaP (by omega),cond_true,Zaf (n:=(out.length:Int)-k) (by omega) (by omega),show (out.length:Int)-k=((out.length-k:Nat):Int) by omega,
   Zab _ (Zaw (by omega)),Int.toNat_natCast,Zad (by simp;omega),Zaf (by omega) (by omega),show (i:Int)+1=((i+1:Nat):Int) by omega,
   ZuB b l k hk hl j (i+1) _ (by omega) (by simp;omega) (by simp;omega)]
  rfl
theorem ZlY (a b:Nat):ZqB (a:Int) (b:Int)=((min a b:Nat):Int):=by
 unfold ZqB
 by_cases h:(b:Int)<(a:Int)
 ·rw [if_pos h];omega
 ·rw [if_neg h];omega
theorem ZAT (l k:Nat) (out:List Int) (hl:3≤l) (hk:1≤k) (ho:out.length≤100000) :
  add 0 (l:Int) (k:Int) out=some ((ZqD out l k).isSome,(ZqD out l k).getD []):=by
 unfold add ZqD
 rw [show (250:Int)=((250:Nat):Int) from rfl,ZlY]
 simp only [ZdU,Zae]
 rw [show (((l:Nat):Int)==0)=false by simp;omega,show ((0:Int) != 0)=false from rfl]
 simp only [cond_false]
 by_cases h60:l≤60
 ·rw [show decide ((3:Int)≤(l:Int)∧(l:Int)≤60)=true by simp;omega]
  simp only [Bool.not_true,cond_false,Zae]
  by_cases hb:k≤250∧k≤out.length
  ·rw [show decide ((1:Int)≤(k:Int)∧(k:Int)≤((min 250 out.length:Nat):Int))=true by simp;omega,if_pos ⟨h60,hb⟩]
   simp only [Bool.not_true,cond_false]
   rw [Int.sub_zero,Int.toNat_natCast]
   have:=Zz9 0 l k hk (by omega) l 0 out (by omega) hb.2 (by omega)
   rw [show ((0:Nat):Int)=0 from rfl] at this
   rw [this];rfl
  ·rw [show decide ((1:Int)≤(k:Int)∧(k:Int)≤((min 250 out.length:Nat):Int))=false by simp;omega,if_neg (fun e=>hb e.2)]
   rfl
 ·rw [show decide ((3:Int)≤(l:Int)∧(l:Int)≤60)=false by simp;omega,if_neg (fun e=>h60 e.1)]
  rfl
theorem ZxI (l k:Nat) (out:List Int) (hl:3≤l) (hk:1≤k) (ho:out.length≤100000) :
  Ze1 0 (l:Int) (k:Int) out=some ((ZqD out l k).isSome,(ZqD out l k).getD out):=by
 unfold Ze1 ZqD
 simp only [Zl1,Zae]
 rw [show (((l:Nat):Int)==0)=false by simp;omega,show ((0:Int) != 0)=false from rfl]
 simp only [cond_false]
 by_cases h60:l≤60
 ·rw [show decide ((3:Int)≤(l:Int)∧(l:Int)≤60)=true by simp;omega]
  simp only [Bool.not_true,cond_false,Zae]
  by_cases h2:k≤250
  ·rw [show decide ((1:Int)≤(k:Int)∧(k:Int)≤250)=true by simp;omega]
   simp only [Bool.not_true,cond_false,Zae]
   by_cases hb:k≤out.length
   ·rw [show decide ((k:Int)>(out.length:Int))=false by simp;omega,if_pos ⟨h60,h2,hb⟩]
    simp only [cond_false]
    rw [Int.sub_zero,Int.toNat_natCast]
    have:=ZuB 0 l k hk (by omega) l 0 out (by omega) hb (by omega)
    rw [show ((0:Nat):Int)=0 from rfl] at this
    rw [this];rfl
   ·rw [show decide ((k:Int)>(out.length:Int))=true by simp;omega,if_neg (fun e=>hb e.2.2)];rfl
  ·rw [show decide ((1:Int)≤(k:Int)∧(k:Int)≤250)=false by simp;omega,if_neg (fun e=>h2 e.2.1)];rfl
 ·rw [show decide ((3:Int)≤(l:Int)∧(l:Int)≤60)=false by simp;omega,if_neg (fun e=>h60 e.1)];rfl
inductive Tk where
 | lit (c:Nat)
 | far (l k:Nat)
def Tk.z:Tk→Int×Int×Int
 | .lit c=>((c:Int),0,0)
 | .far l k=>(0,(l:Int),(k:Int))
def agM (s:Str) (a k:Nat):Nat→Nat→Nat
 | 0,n=>n
 | f+1,n=>if a+n<s.length∧n<60∧s.getD (a+n) 0=s.getD (a+n-k) 0 then agM s a k f (n+1) else n
def ZcV (s:Str) (a:Nat):Nat→Nat×Nat
 | 0=>(0,0)
 | m+1=>if (ZcV s a m).1<agM s a (m+1) 60 0 then (agM s a (m+1) 60 0,m+1) else ZcV s a m
def Zke (s:Str) (a:Nat):Tk:=if (ZcV s a (min 250 a)).1<3 then .lit (s.getD a 0).toNat else .far (ZcV s a (min 250 a)).1 (ZcV s a (min 250 a)).2
def Tk.long:Tk→Nat
 | .lit _=>1
 | .far l _=>l
def Zfd (s:Str):Nat→Nat→List Tk
 | 0,_=>[]
 | f+1,a=>if a<s.length then Zke s a::Zfd s f (a+(Zke s a).long) else []
theorem Zyy (s:Str) (a k:Nat):∀f n,n≤60→n≤agM s a k f n∧agM s a k f n≤60
 | 0,n,h=>⟨Nat.le_refl _,h⟩
 | f+1,n,h=>by
  rw [agM]
  by_cases c:a+n<s.length∧n<60∧s.getD (a+n) 0=s.getD (a+n-k) 0
  ·rw [if_pos c];have:=Zyy s a k f (n+1) (by omega);omega
  ·rw [if_neg c];omega
theorem Zve (s:Str) (a k:Nat):∀f n i,n≤i→i<agM s a k f n→a+i<s.length∧s.getD (a+i) 0=s.getD (a+i-k) 0
 | 0,n,i,h1,h2=>by simp only [agM] at h2;omega
 | f+1,n,i,h1,h2=>by
  rw [agM] at h2
  by_cases c:a+n<s.length∧n<60∧s.getD (a+n) 0=s.getD (a+n-k) 0
  ·rw [if_pos c] at h2
   by_cases e:i=n
   ·subst e;exact ⟨c.1,c.2.2⟩
   ·exact Zve s a k f (n+1) i (by omega) h2
  ·rw [if_neg c] at h2;omega
theorem Zk9 (s:Str) (a:Nat):∀m,(ZcV s a m).1≤60∧(ZcV s a m).2≤m∧(0<(ZcV s a m).1→1≤(ZcV s a m).2∧(ZcV s a m).1=agM s a (ZcV s a m).2 60 0)
 | 0=>by simp [ZcV]
 | m+1=>by
  have ih:=Zk9 s a m
  have hl:=Zyy s a (m+1) 60 0 (by omega)
  rw [ZcV]
  by_cases c:(ZcV s a m).1<agM s a (m+1) 60 0
  ·rw [if_pos c];exact ⟨hl.2,Nat.le_refl _,fun _=>⟨Nat.le_add_left _ _,rfl⟩⟩
  ·rw [if_neg c];exact ⟨ih.1,by omega,ih.2.2⟩
theorem u8_eq (x y:UInt8):(((x.toNat:Int))==((y.toNat:Int)))=decide (x=y):=by
 by_cases h:x=y
 ·subst h;simp
 ·have:x.toNat≠y.toNat:=fun e=>h (UInt8.toNat_inj.1 e)
  rw [decide_eq_false h];simp;omega
theorem Zpp {α:Type} (s:Str) (hs:s.length≤1000) (a k n:Nat) (ha:a≤1000) (hk:k≤a) (hn:n<60) (x y:Option α) :
  ((bif decide (w64 ((a:Int)+(n:Int))<(s.length:Int)) then (need (decide (0≤(w64 ((a:Int)+(n:Int))))&&decide ((w64 ((a:Int)+(n:Int)))<s.length)) (need (decide (0≤(w64 ((w64 ((a:Int)+(n:Int)))-(k:Int))))&&decide ((w64 ((w64 ((a:Int)+(n:Int)))-(k:Int)))<s.length)) (some (((s.getD (w64 ((a:Int)+(n:Int))).toNat 0).toNat:Int)==((s.getD (w64 ((w64 ((a:Int)+(n:Int)))-(k:Int))).toNat 0).toNat:Int))))) else
 (some false)).bind fun c=>bif c then x else y)=if a+n<s.length∧n<60∧s.getD (a+n) 0=s.getD (a+n-k) 0 then x else y:=by
 have e1:w64 ((a:Int)+(n:Int))=((a+n:Nat):Int):=by rw [Zaf]<;>omega
 have e2:w64 (((a+n:Nat):Int)-(k:Int))=((a+n-k:Nat):Int):=by rw [Zaf]<;>omega
 rw [e1,e2]
 by_cases h1:a+n<s.length
 ·rw [Zab _ (Zaw h1),Zab _ (Zaw (by omega)),decide_eq_true (show (((a+n:Nat):Int)<(s.length:Int)) by omega),Int.toNat_natCast,Int.toNat_natCast,u8_eq,cond_true]
  simp only [Zae,ZbG]
  by_cases h2:s.getD (a+n) 0=s.getD (a+n-k) 0
  ·rw [if_pos h2,if_pos ⟨h1,hn,h2⟩]
  ·rw [if_neg h2,if_neg (fun e=>h2 e.2.2)]
 ·rw [if_neg (fun e=>h1 e.1),decide_eq_false (show ¬(((a+n:Nat):Int)<(s.length:Int)) by omega)];rfl
theorem ZoW (s:Str) (hs:s.length≤1000) (a k:Nat) (ha:a≤1000) (hk:k≤a):∀(j f n:Nat),n+j=60→j≤f→Zcl.l0 (f+1) (s,(a:Int),(k:Int),(n:Int))=some (agM s a k j n:Int)
 | 0,f,n,h,hf=>by
  rw [Zcl.l0.succ];simp only [Zcl.l0.step,agM]
  have hn:n=60:=by omega
  subst hn
  rw [show decide (((60:Nat):Int)<60)=false by decide]
  simp only [cond_false]
  cases decide (w64 ((a:Int)+((60:Nat):Int))<(s.length:Int))<;>rfl
 | j+1,0,n,h,hf=>by omega
 | j+1,f+1,n,h,hf=>by
  rw [Zcl.l0.succ];simp only [Zcl.l0.step]
  rw [agM,decide_eq_true (show ((n:Int)<60) by omega),cond_true,Zpp s hs a k n ha hk (by omega),Zaf (by omega) (by omega),show (n:Int)+1=((n+1:Nat):Int) by omega,
   ZoW s hs a k ha hk j f (n+1) (by omega) (by omega)]
  split<;>rfl
theorem ZvW (s:Str) (hs:s.length≤1000) (a k:Nat) (ha:a≤1000) (hk:k≤a):Zcl s (a:Int) (k:Int)=some (agM s a k 60 0:Int):=by
 unfold Zcl
 have h:=ZoW s hs a k ha hk 60 61 0 rfl (by omega)
 rw [show ((0:Nat):Int)=0 from rfl] at h
 rw [h];rfl
theorem Zmi (s:Str) (hs:s.length≤1000) (a k:Nat) (ha:a≤1000) (hk:k≤a) (out:List (Int×Int×Int)) (o3 o4 o5:Int):∀(j n:Nat),n+j=60→
  Zat.l0 (j+1) (s,(a:Int),(k:Int),(n:Int),out,o3,o4,o5)=some (s,(a:Int),(k:Int),(agM s a k j n:Int),out,o3,o4,o5)
 | 0,n,h=>by
  rw [Zat.l0.succ];simp only [Zat.l0.step,agM]
  have hn:n=60:=by omega
  subst hn
  rfl
 | j+1,n,h=>by
  rw [Zat.l0.succ];simp only [Zat.l0.step]
  rw [agM,decide_eq_true (show ((n:Int)<60) by omega),cond_true,Zpp s hs a k n ha hk (by omega),Zaf (by omega) (by omega),show (n:Int)+1=((n+1:Nat):Int) by omega,
   Zmi s hs a k ha hk out o3 o4 o5 j (n+1) (by omega)]
  split<;>rfl
def Zqs (c:Int) (b:Nat×Nat):Int×Int×Int:=if b.1<3 then (c,0,0) else (0,(b.1:Int),(b.2:Int))
theorem Zwk (c:Int) (b:Nat×Nat) (n k:Nat):(Zqs c (if b.1<n then (n,k) else b))=if 3≤n∧(Zqs c b).2.1<(n:Int) then (0,(n:Int),(k:Int)) else Zqs c b:=by
 unfold Zqs
 by_cases h1:b.1<n<;>by_cases h2:b.1<3<;>by_cases h3:n<3 <;>
  simp only [h1,h2,h3,if_true,if_false]<;>(first | (exfalso;omega) | (rw [if_pos (by simp;omega)]) | (rw [if_neg (by simp;omega)]) | rfl)
theorem Zg8 (s:Str) (hs:s.length≤1000) (a:Nat) (ha:a≤1000) (out:List (Int×Int×Int)) (c:Int):∀(j m:Nat),m+j=min 250 a→∀(b:Int×Int×Int),b=Zqs c (ZcV s a m)→
  Zat.l1 (j+1) (s,(a:Int),((m+1:Nat):Int),out,b)=some (s,(a:Int),out,Zqs c (ZcV s a (min 250 a)))
 | 0,m,h,(b1,b2,b3),hb=>by
  have hm:m=min 250 a:=by omega
  subst hm
  rw [Zat.l1.succ];simp only [Zat.l1.step]
  rw [show (250:Int)=((250:Nat):Int) from rfl,ZlY,decide_eq_false (by omega),hb];rfl
 | j+1,m,h,(b1,b2,b3),hb=>by
  rw [Zat.l1.succ];simp only [Zat.l1.step]
  have h0:=Zmi s hs a (m+1) ha (by omega) out b1 b2 b3 60 0 (by omega)
  rw [show ((0:Nat):Int)=0 from rfl] at h0
  rw [show (250:Int)=((250:Nat):Int) from rfl,ZlY,decide_eq_true (by omega),cond_true,show ((60:Int)-0).toNat=60 from rfl,h0]
  have ha2:=Zyy s a (m+1) 60 0 (by omega)
  simp only [Zae]
  rw [Zaf (by omega) (by omega),show ((m+1:Nat):Int)+1=((m+1+1:Nat):Int) by omega]
  have hn:=Zwk c (ZcV s a m) (agM s a (m+1) 60 0) (m+1)
  have e:ZcV s a (m+1)=if (ZcV s a m).1<agM s a (m+1) 60 0 then (agM s a (m+1) 60 0,m+1) else ZcV s a m:=rfl
  rw [←e,←hb] at hn
  dsimp only at hn
  by_cases h3:3≤agM s a (m+1) 60 0
  ·rw [show decide (((agM s a (m+1) 60 0:Nat):Int)≥3)=true by simp;omega]
   simp only [cond_true,Zae,ZbG]
   by_cases h4:b2<((agM s a (m+1) 60 0:Nat):Int)
   ·rw [if_pos ⟨h3,h4⟩] at hn
    rw [if_pos (show ((agM s a (m+1) 60 0:Nat):Int)>b2 from h4)]
    exact Zg8 s hs a ha out c j (m+1) (by omega) _ hn.symm
   ·rw [if_neg (fun e=>h4 e.2)] at hn
    rw [if_neg (show ¬((agM s a (m+1) 60 0:Nat):Int)>b2 from h4)]
    exact Zg8 s hs a ha out c j (m+1) (by omega) _ hn.symm
  ·rw [show decide (((agM s a (m+1) 60 0:Nat):Int)≥3)=false by simp;omega]
   rw [if_neg (fun e=>h3 e.1)] at hn
   simp only [cond_false,Zae]
   exact Zg8 s hs a ha out c j (m+1) (by omega) _ hn.symm
theorem Zys (s:Str) (a:Nat):Zqs ((s.getD a 0).toNat:Int) (ZcV s a (min 250 a))=(Zke s a).z:=by
 unfold Zqs Zke
 split<;>rfl
theorem Zza (x:Int) (h:1≤x):Zww x 1=x:=by
 unfold Zww;split<;>omega
theorem Zmk (s:Str) (a:Nat):1≤(Zke s a).long∧(Zke s a).long≤60∧Zww (Zke s a).z.2.1 1=((Zke s a).long:Int):=by
 have h:=Zk9 s a (min 250 a)
 unfold Zke
 by_cases c:(ZcV s a (min 250 a)).1<3
 ·rw [if_pos c];exact ⟨Nat.le_refl _,by simp [Tk.long],by simp [Tk.z,Tk.long,Zww]⟩
 ·rw [if_neg c]
  exact ⟨by simp only [Tk.long];omega,h.1,Zza _ (by simp only [Tk.z];omega)⟩
theorem Zmh (s:Str) (hs:s.length≤300):∀(j a:Nat),s.length≤a+j→a≤600→∀out:List (Int×Int×Int),out.length≤a→
  Zat.l2 (j+1) (s,(a:Int),out)=some (out++(Zfd s j a).map Tk.z)
 | 0,a,h,ha,out,ho=>by
  rw [Zat.l2.succ];simp only [Zat.l2.step]
  rw [ZaQ (by omega)];simp [Zfd]
 | j+1,a,h,ha,out,ho=>by
  rw [Zat.l2.succ];simp only [Zat.l2.step]
  by_cases hlt:a<s.length
  ·have h1:=Zg8 s (by omega) a (by omega) out ((s.getD a 0).toNat:Int) (min 250 a) 0 (by omega) (((s.getD a 0).toNat:Int),0,0) (by simp [Zqs,ZcV])
   rw [show ((0+1:Nat):Int)=1 from rfl] at h1
   have hb:(s.getD a 0).toNat<256:=UInt8.toNat_lt _
   have hm:((ZqB 250 (a:Int))-1).toNat+2=min 250 a+1∨(min 250 a=0∧((ZqB 250 (a:Int))-1).toNat+2=2):=by
    rw [show (250:Int)=((250:Nat):Int) from rfl,ZlY];omega
   rw [ZaP hlt,cond_true,Zab _ Zav,Int.toNat_natCast,Zaf (n:=((s.getD a 0).toNat:Int)) (by omega) (by omega)]
   have h1':Zat.l1 (((ZqB 250 (a:Int))-1).toNat+2) (s,(a:Int),1,out,((s.getD a 0).toNat:Int),0,0)=some (s,(a:Int),out,(Zke s a).z):=by
    rw [←Zys]
    rcases hm with e | ⟨e0,e⟩
    ·rw [e];exact h1
    ·rw [e]
     have a0:a=0:=by omega
     subst a0
     rfl
   rw [h1']
   obtain ⟨t1,t2,t3⟩:=Zmk s a
   rcases hz:(Zke s a).z with ⟨z1,z2,z3⟩
   rw [hz] at t3
   simp only [Zae]
   dsimp only at t3
   rw [Zad (by simp;omega),t3,Zaf (by omega) (by omega),show (a:Int)+((Zke s a).long:Int)=((a+(Zke s a).long:Nat):Int) by omega,
    Zmh s hs j (a+(Zke s a).long) (by omega) (by omega) _ (by simp;omega)]
   rw [Zfd,if_pos hlt,List.map_cons,hz];simp
  ·rw [ZaQ (by omega),Zfd,if_neg hlt];simp
def ZiG (s:Str):List Tk:=Zfd s s.length 0
theorem Zmj (s:Str) (hs:s.length≤300):Zat s=some ((ZiG s).map Tk.z):=by
 unfold Zat
 rw [decide_eq_false (by omega),cond_false,ZaA]
 have h:=Zmh s hs s.length 0 (by omega) (by omega) [] (by simp)
 rw [show ((0:Nat):Int)=0 from rfl] at h
 rw [h];simp [ZiG]
theorem Zi8 (s:Str) (hs:s.length≤1000) (a:Nat) (ha:a≤1000) (out:List (Int×Int×Int)):∀(j f m:Nat),m+j=min 250 a→j≤f→∀(l k:Int),l=((ZcV s a m).1:Int)→k=((ZcV s a m).2:Int)→
  ZaK.l0 (f+1) (s,(a:Int),l,k,((m+1:Nat):Int),out)=some (s,(a:Int),((ZcV s a (min 250 a)).1:Int),((ZcV s a (min 250 a)).2:Int),out)
 | 0,f,m,h,hf,l,k,hl,hk=>by
  have hm:m=min 250 a:=by omega
  rw [ZaK.l0.succ];simp only [ZaK.l0.step]
  subst hl hk
  by_cases h1:m+1≤250
  ·rw [decide_eq_true (show (((m+1:Nat):Int)≤250) by omega),decide_eq_false (show ¬(((m+1:Nat):Int)≤(a:Int)) by omega),hm];rfl
  ·rw [decide_eq_false (show ¬(((m+1:Nat):Int)≤250) by omega),hm];rfl
 | j+1,0,m,h,hf,l,k,hl,hk=>by omega
 | j+1,f+1,m,h,hf,l,k,hl,hk=>by
  rw [ZaK.l0.succ];simp only [ZaK.l0.step]
  rw [decide_eq_true (show (((m+1:Nat):Int)≤250) by omega),decide_eq_true (show (((m+1:Nat):Int)≤(a:Int)) by omega)]
  simp only [cond_true,Zae]
  rw [ZvW s hs a (m+1) ha (by omega)]
  simp only [Zae,ZbG]
  rw [Zaf (by omega) (by omega),show ((m+1:Nat):Int)+1=((m+1+1:Nat):Int) by omega]
  have e:ZcV s a (m+1)=if (ZcV s a m).1<agM s a (m+1) 60 0 then (agM s a (m+1) 60 0,m+1) else ZcV s a m:=rfl
  subst hl hk
  by_cases c:(ZcV s a m).1<agM s a (m+1) 60 0
  ·rw [if_pos (by omega)]
   rw [if_pos c] at e
   exact Zi8 s hs a ha out j f (m+1) (by omega) (by omega) _ _ (by rw [e]) (by rw [e])
  ·rw [if_neg (by omega)]
   rw [if_neg c] at e
   exact Zi8 s hs a ha out j f (m+1) (by omega) (by omega) _ _ (by rw [e]) (by rw [e])
theorem Zi7 (s:Str) (hs:s.length≤300):∀(j a:Nat),s.length≤a+j→a≤600→∀out:List (Int×Int×Int),out.length≤a→
  ZaK.l1 (j+1) (s,(a:Int),out)=some (out++(Zfd s j a).map Tk.z)
 | 0,a,h,ha,out,ho=>by
  rw [ZaK.l1.succ];simp only [ZaK.l1.step]
  rw [ZaQ (by omega)];simp [Zfd]
 | j+1,a,h,ha,out,ho=>by
  rw [ZaK.l1.succ];simp only [ZaK.l1.step]
  by_cases hlt:a<s.length
  ·have h1:=Zi8 s (by omega) a (by omega) out (min 250 a) 250 0 (by omega) (by omega) 0 0 (by simp [ZcV]) (by simp [ZcV])
   rw [show ((0+1:Nat):Int)=1 from rfl] at h1
   have hb:(s.getD a 0).toNat<256:=UInt8.toNat_lt _
   obtain ⟨t1,t2,t3⟩:=Zmk s a
   rw [ZaP hlt,cond_true,show ((250:Int)-1).toNat+2=251 from rfl,h1]
   simp only [Zae,ZbG]
   rw [Zfd,if_pos hlt,List.map_cons]
   by_cases c:(ZcV s a (min 250 a)).1<3
   ·have et:Zke s a=.lit (s.getD a 0).toNat:=by unfold Zke;rw [if_pos c]
    rw [if_pos (by omega),Zab _ (Zaw hlt),Zad (by simp;omega),Int.toNat_natCast,Zaf (n:=((s.getD a 0).toNat:Int)) (by omega) (by omega),Zaf (by omega) (by omega),
     show (a:Int)+1=((a+1:Nat):Int) by omega,Zi7 s hs j (a+1) (by omega) (by omega) _ (by simp;omega),et]
    simp [Tk.z,Tk.long]
   ·have et:Zke s a=.far (ZcV s a (min 250 a)).1 (ZcV s a (min 250 a)).2:=by unfold Zke;rw [if_neg c]
    rw [et] at t1 t2
    simp only [Tk.long] at t1 t2
    rw [if_neg (by omega),Zad (by simp;omega),Zaf (by omega) (by omega),
     show (a:Int)+((ZcV s a (min 250 a)).1:Int)=((a+(ZcV s a (min 250 a)).1:Nat):Int) by omega,Zi7 s hs j (a+(ZcV s a (min 250 a)).1) (by omega) (by omega) _ (by simp;omega),et]
    simp [Tk.z,Tk.long]
  ·rw [ZaQ (by omega),Zfd,if_neg hlt];simp
theorem ZmU (s:Str) (hs:s.length≤300):ZaK s=some ((ZiG s).map Tk.z):=by
 unfold ZaK
 rw [ZaA]
 have h:=Zi7 s hs s.length 0 (by omega) (by omega) [] (by simp)
 rw [show ((0:Nat):Int)=0 from rfl] at h
 rw [h];simp [ZiG]
end Ev
end
section
namespace Ev
open Go
def ints (s:Str):List Int:=s.map fun c=>(c.toNat:Int)
theorem ZdK (s:Str):(ints s).length=s.length:=by simp [ints]
theorem ZxR (s:Str) (i:Nat):(ints s).getD i 0=((s.getD i 0).toNat:Int):=by
 by_cases h:i<s.length
 ·rw [Zan (by rw [ZdK];exact h),Zan h];simp [ints]
 ·simp [ints,List.getD,Nat.le_of_not_lt h]
theorem Zm5 (s t:Str):ints (s++t)=ints s++ints t:=by simp [ints]
theorem Zkn {α:Type} (s:List α) (n:Nat) (d:α) (h:n<s.length):s.take (n+1)=s.take n++[s.getD n d]:=by
 rw [List.take_succ_eq_append_getElem h,Zan h]
theorem ZwH {α:Type} (s:List α) (n i:Nat) (d:α) (h:i<n):(s.take n).getD i d=s.getD i d:=by
 simp [List.getD,List.getElem?_take,h]
theorem Zsu (s:Str) (a l k:Nat) (hk:1≤k) (hka:k≤a) (h:∀i,i<l→a+i<s.length∧s.getD (a+i) 0=s.getD (a+i-k) 0):∀(j i:Nat),i+j=l→
  Zsv k j (ints (s.take (a+i)))=ints (s.take (a+l))
 | 0,i,hi=>by rw [show i=l by omega];rfl
 | j+1,i,hi=>by
  obtain ⟨h1,h2⟩:=h i (by omega)
  rw [Zsv,ZdK,List.length_take,Nat.min_eq_left (by omega),ZxR,ZwH _ _ _ _ (by omega),←h2]
  have e:ints (s.take (a+i))++[((s.getD (a+i) 0).toNat:Int)]=ints (s.take (a+(i+1))):=by
   rw [←Nat.add_assoc,Zkn s (a+i) 0 h1,Zm5];rfl
  rw [e]
  exact Zsu s a l k hk hka h j (i+1) (by omega)
theorem Zt3 {s:Str} {a c:Nat} (h:Zke s a=.lit c):c=(s.getD a 0).toNat:=by
 unfold Zke at h
 split at h
 ·exact (Tk.lit.inj h).symm
 ·cases h
theorem Zt4 {s:Str} {a l k:Nat} (h:Zke s a=.far l k) (ha:a≤s.length):3≤l∧l≤60∧1≤k∧k≤250∧a+l≤s.length∧ZqD (ints (s.take a)) l k=some (ints (s.take (a+l))):=by
 have hb:=Zk9 s a (min 250 a)
 unfold Zke at h
 by_cases c:(ZcV s a (min 250 a)).1<3
 ·rw [if_pos c] at h;cases h
 ·rw [if_neg c] at h
  obtain ⟨rfl,rfl⟩:=Tk.far.inj h
  obtain ⟨h1,h2,h3⟩:=hb
  obtain ⟨h4,h5⟩:=h3 (by omega)
  have hs:∀i,i<(ZcV s a (min 250 a)).1→a+i<s.length∧s.getD (a+i) 0=s.getD (a+i-(ZcV s a (min 250 a)).2) 0:=fun i hi=>
   Zve s a (ZcV s a (min 250 a)).2 60 0 i (Nat.zero_le _) (by rw [←h5];exact hi)
  have hlast:=(hs ((ZcV s a (min 250 a)).1-1) (by omega)).1
  refine ⟨by omega,h1,h4,by omega,by omega,?_⟩
  unfold ZqD
  rw [ZdK,List.length_take,Nat.min_eq_left ha,if_pos ⟨h1,by omega,by omega⟩]
  have:=Zsu s a _ _ h4 (by omega) hs (ZcV s a (min 250 a)).1 0 (by omega)
  rw [Nat.add_zero] at this
  rw [this]
def Zcz:List Nat:=[0,0,0,0,0,0,0,0,1,1,1,1,2,2,2,2,3,3,3,3,4,4,4,4,5,5,5,5]
def Zaz:List Nat:=[3,4,5,6,7,8,9,10,11,13,15,17,19,23,27,31,35,43,51,59,67,83,99,115,131,163,195,227]
def Zdk:List Nat:=[0,0,0,0,1,1,2,2,3,3,4,4,5,5,6,6,7,7,8,8,9,9,10,10,11,11,12,12,13,13]
def ZaU:List Nat:=[1,2,3,4,5,7,9,13,17,25,33,49,65,97,129,193,257,385,513,769,1025,1537,2049,3073,4097,6145,8193,12289,16385,24577]
theorem ZkI:Zb2=some (zs Zaz,zs Zcz):=by kernel_rfl
theorem Zla:Zb5=some (zs ZaU,zs Zdk):=by kernel_rfl
theorem ZfJ:Zbd=some (zs Zcz):=by kernel_rfl
theorem ZfK:Zbe=some (zs Zdk):=by kernel_rfl
theorem Zi5:ZcZ (zs Zcz) 3=some (zs Zaz):=by kernel_rfl
theorem Zi6:ZcZ (zs Zdk) 1=some (zs ZaU):=by kernel_rfl
def Znl:List Nat:=List.replicate 144 8++List.replicate 112 9++List.replicate 24 7++List.replicate 8 8
def Zn6:List Nat:=List.replicate 32 5
theorem ZlD:Zbp=some (zs Znl,zs Zn6):=by kernel_rfl
theorem ZoU:Zc5=some (zs Znl):=by kernel_rfl
theorem ZoV:Zc6=some (zs Zn6):=by kernel_rfl
def ZbW (F:List Nat) (n:Nat):Nat:=(F.filter fun x=>decide (x≤n)).length-1
def chkL:Bool:=(List.range 58).all fun i=>
 (Zcq (zs Zaz) (zs Zcz) ((i+3:Nat):Int)==some ((ZbW Zaz (i+3):Nat):Int))&&(Zfj (zs Zaz) ((i+3:Nat):Int)==some ((ZbW Zaz (i+3):Nat):Int))&&
 decide (ZbW Zaz (i+3)<28)&&decide (Zaz.getD (ZbW Zaz (i+3)) 0≤i+3)&&decide (i+3-Zaz.getD (ZbW Zaz (i+3)) 0<2^Zcz.getD (ZbW Zaz (i+3)) 0)
def chkD:Bool:=(List.range 250).all fun i=>
 (Zcq (zs ZaU) (zs Zdk) ((i+1:Nat):Int)==some ((ZbW ZaU (i+1):Nat):Int))&&(Zfj (zs ZaU) ((i+1:Nat):Int)==some ((ZbW ZaU (i+1):Nat):Int))&&
 decide (ZbW ZaU (i+1)<30)&&decide (ZaU.getD (ZbW ZaU (i+1)) 0≤i+1)&&decide (i+1-ZaU.getD (ZbW ZaU (i+1)) 0<2^Zdk.getD (ZbW ZaU (i+1)) 0)
theorem ZAM:chkL=true:=by kernel_rfl
theorem ZAN:chkD=true:=by kernel_rfl
theorem ZfD (n:Nat) (h1:3≤n) (h2:n≤60):Zcq (zs Zaz) (zs Zcz) (n:Int)=some ((ZbW Zaz n:Nat):Int)∧Zfj (zs Zaz) (n:Int)=some ((ZbW Zaz n:Nat):Int)∧
  ZbW Zaz n<28∧Zaz.getD (ZbW Zaz n) 0≤n∧n-Zaz.getD (ZbW Zaz n) 0<2^Zcz.getD (ZbW Zaz n) 0:=by
 have h:=List.all_eq_true.1 ZAM (n-3) (List.mem_range.2 (by omega))
 rw [show n-3+3=n by omega] at h
 simp only [Bool.and_eq_true,beq_iff_eq,decide_eq_true_eq] at h
 exact ⟨h.1.1.1.1,h.1.1.1.2,h.1.1.2,h.1.2,h.2⟩
theorem Zgh (n:Nat) (h1:1≤n) (h2:n≤250):Zcq (zs ZaU) (zs Zdk) (n:Int)=some ((ZbW ZaU n:Nat):Int)∧Zfj (zs ZaU) (n:Int)=some ((ZbW ZaU n:Nat):Int)∧
  ZbW ZaU n<30∧ZaU.getD (ZbW ZaU n) 0≤n∧n-ZaU.getD (ZbW ZaU n) 0<2^Zdk.getD (ZbW ZaU n) 0:=by
 have h:=List.all_eq_true.1 ZAN (n-1) (List.mem_range.2 (by omega))
 rw [show n-1+1=n by omega] at h
 simp only [Bool.and_eq_true,beq_iff_eq,decide_eq_true_eq] at h
 exact ⟨h.1.1.1.1,h.1.1.1.2,h.1.1.2,h.1.2,h.2⟩
theorem ZjA (k:Nat):Zcz.getD k 0≤5:=by
 by_cases h:k<28
 ·have:(List.range 28).all (fun k=>decide (Zcz.getD k 0≤5))=true:=by decide
  simpa using List.all_eq_true.1 this k (List.mem_range.2 h)
 ·simp [List.getD,show Zcz.length=28 from rfl,Nat.le_of_not_lt h]
theorem Zj8 (k:Nat):Zdk.getD k 0≤13:=by
 by_cases h:k<30
 ·have:(List.range 30).all (fun k=>decide (Zdk.getD k 0≤13))=true:=by decide
  simpa using List.all_eq_true.1 this k (List.mem_range.2 h)
 ·simp [List.getD,show Zdk.length=30 from rfl,Nat.le_of_not_lt h]
def Tk.Ok:Tk→Prop
 | .lit c=>c<256
 | .far l k=>3≤l∧l≤60∧1≤k∧k≤250
theorem ZlV (s:Str):∀f a,a≤s.length→∀t∈Zfd s f a,t.Ok
 | 0,a,ha,t,h=>by simp [Zfd] at h
 | f+1,a,ha,t,h=>by
  rw [Zfd] at h
  by_cases hlt:a<s.length
  ·rw [if_pos hlt] at h
   cases hk:Zke s a with
   | lit c=>
    rw [hk] at h
    rcases List.mem_cons.1 h with rfl | h
    ·rw [Zt3 hk];exact UInt8.toNat_lt _
    ·exact ZlV s f (a+1) (by omega) t h
   | far l k=>
    have hf:=Zt4 hk ha
    rw [hk] at h
    rcases List.mem_cons.1 h with rfl | h
    ·exact ⟨hf.1,hf.2.1,hf.2.2.1,hf.2.2.2.1⟩
    ·exact ZlV s f (a+l) (by omega) t h
  ·rw [if_neg hlt] at h;simp at h
theorem Zld (s:Str):∀f a,(Zfd s f a).length≤f
 | 0,a=>by simp [Zfd]
 | f+1,a=>by
  rw [Zfd];split
  ·have:=Zld s f (a+(Zke s a).long);simp;omega
  ·simp
def ZqA (ls ds:List Nat):Tk→List Bool
 | .lit c=>Zjl ls c
 | .far l k=>Zjl ls (257+ZbW Zaz l)++(ZbM (l-Zaz.getD (ZbW Zaz l) 0) (Zcz.getD (ZbW Zaz l) 0)++(Zjl ds (ZbW ZaU k)++ZbM (k-ZaU.getD (ZbW ZaU k) 0) (Zdk.getD (ZbW ZaU k) 0)))
def ZfU (ls ds:List Nat):List Tk→List Bool
 | []=>Zjl ls 256
 | t::r=>ZqA ls ds t++ZfU ls ds r
def Tk.In (ls ds:List Nat):Tk→Prop
 | .lit c=>c<ls.length
 | .far l k=>257+ZbW Zaz l<ls.length∧ZbW ZaU k<ds.length
theorem Zcw (ns:List Nat) (i:Nat) (hi:i<ns.length) (h15:∀n∈ns,n≤15):(Zjl ns i).length≤15:=by
 have hm:ns.getD i 0≤15:=by rw [Zan hi];exact h15 _ (List.getElem_mem hi)
 simp [Zjl,msb,Zaj];exact hm
theorem Zg9 (ls ds:List Nat) (hl:∀n∈ls,n≤15) (hd:∀n∈ds,n≤15) (t:Tk) (h:t.In ls ds):(ZqA ls ds t).length≤48:=by
 cases t with
 | lit c=>have:=Zcw ls c h hl;simp only [ZqA];omega
 | far l k=>
  have h1:=Zcw ls _ h.1 hl
  have h2:=Zcw ds _ h.2 hd
  have h3:=ZjA (ZbW Zaz l)
  have h4:=Zj8 (ZbW ZaU k)
  simp only [ZqA,List.length_append,Zaj];omega
end Ev
end
section
namespace Ev
open Go
theorem Zaa {α β:Type} (a:α) (f:α→Option β):(some a).bind f=f a:=Eq.trans rfl rfl
def ZgK (ls ds:List Nat) (ts:List Tk):List Bool:=ts.flatMap (ZqA ls ds)
theorem ZgN (ls ds:List Nat):∀ts,ZfU ls ds ts=ZgK ls ds ts++Zjl ls 256
 | []=>rfl
 | t::r=>by rw [ZfU,ZgN ls ds r];simp [ZgK]
theorem ZlS (ts:List Tk) (i:Nat) (h:i<ts.length):(ts.map Tk.z).getD i (0,0,0)=(ts[i]).z:=by
 rw [Zan (by simpa using h)];simp
theorem Zof (ls ds:List Nat) (hkl:Zbw ls≤32768) (hkd:Zbw ds≤32768) (hl:∀n∈ls,n≤15) (hd:∀n∈ds,n≤15) (ts:List Tk) (hts:∀t∈ts,t.Ok∧t.In ls ds) (hn:ts.length≤1000) :
  ∀(j i:Nat) (l:List Bool),i+j=ts.length→l.length+48*j≤70000000→
  ZbO.l0 (j+1) (zs ls,zs ds,ts.map Tk.z,(ts.length:Int),(i:Int),(l.length:Int),zs (Zb7 ls),zs (Zb7 ds),ZfG l) =
   some (zs ls,(((l++ZgK ls ds (ts.drop i)).length:Nat):Int),zs (Zb7 ls),ZfG (l++ZgK ls ds (ts.drop i)))
 | 0,i,l,hi,hb=>by
  rw [ZbO.l0.succ];simp only [ZbO.l0.step]
  rw [ZaQ (by omega),List.drop_eq_nil_of_le (by omega)];simp [ZgK]
 | j+1,i,l,hi,hb=>by
  have hlt:i<ts.length:=by omega
  obtain ⟨hok,hin⟩:=hts ts[i] (List.getElem_mem hlt)
  have hdr:ts.drop i=ts[i]::ts.drop (i+1):=List.drop_eq_getElem_cons hlt
  have htl:=Zg9 ls ds hl hd ts[i] hin
  have ih:=Zof ls ds hkl hkd hl hd ts hts hn j (i+1) (l++ZqA ls ds ts[i]) (by omega) (by simp;omega)
  have e:ZgK ls ds (ts.drop i)=ZqA ls ds ts[i]++ZgK ls ds (ts.drop (i+1)):=by rw [hdr];rfl
  rw [e,←List.append_assoc,←ih]
  rw [ZbO.l0.succ];simp only [ZbO.l0.step]
  rw [ZaP hlt,cond_true,Zab _ (by rw [List.length_map];exact Zaw hlt),Int.toNat_natCast,ZlS ts i hlt,Zaf (n:=(i:Int)+1) (by omega) (by omega),show (i:Int)+1=((i+1:Nat):Int) by omega]
  cases hk:ts[i] with
  | lit c=>
   rw [hk] at hok hin
   have hc:=Zjn ls hkl hl c hin l (by omega)
   simp only [Tk.z]
   rw [show ((0:Int)==0)=true from rfl,cond_true,hc]
   simp only [Zaa,ZqA]
  | far n k=>
   rw [hk] at hok hin
   obtain ⟨o1,o2,o3,o4⟩:=hok
   obtain ⟨i1,i2⟩:=hin
   obtain ⟨a1,a2,a3,a4,a5⟩:=ZfD n o1 o2
   obtain ⟨b1,b2,b3,b4,b5⟩:=Zgh k o3 o4
   have hlb:=ZjA (ZbW Zaz n)
   have hbb:=Zj8 (ZbW ZaU k)
   have hs1:=Zcw ls (257+ZbW Zaz n) i1 hl
   have hs2:=Zcw ds (ZbW ZaU k) i2 hd
   have c1:=Zjn ls hkl hl _ i1 l (by omega)
   have c2:=ZeV (n-Zaz.getD (ZbW Zaz n) 0) (Zcz.getD (ZbW Zaz n) 0) (by omega) (by omega) (l++Zjl ls (257+ZbW Zaz n)) (by simp only [List.length_append];omega)
   have c3:=Zjn ds hkd hd _ i2 ((l++Zjl ls (257+ZbW Zaz n))++ZbM (n-Zaz.getD (ZbW Zaz n) 0) (Zcz.getD (ZbW Zaz n) 0)) (by simp only [List.length_append,Zaj];omega)
   have c4:=ZeV (k-ZaU.getD (ZbW ZaU k) 0) (Zdk.getD (ZbW ZaU k) 0) (by omega) (by omega) (((l++Zjl ls (257+ZbW Zaz n))++ZbM (n-Zaz.getD (ZbW Zaz n) 0) (Zcz.getD (ZbW Zaz n) 0))++Zjl ds (ZbW ZaU k)) (by simp only [List.length_append,Zaj];omega)
   have eL:=ZkI
   have eB:=Zla
   have gL:=fun i:Nat=>ZaJ Zaz i
   have gM:=fun i:Nat=>ZaJ Zcz i
   have gB:=fun i:Nat=>ZaJ ZaU i
   have gC:=fun i:Nat=>ZaJ Zdk i
   have nL:(zs Zaz).length=28:=Zag Zaz
   have nM:(zs Zcz).length=28:=Zag Zcz
   have nB:(zs ZaU).length=30:=Zag ZaU
   have nC:(zs Zdk).length=30:=Zag Zdk
   generalize zs Zaz=A at eL a1 a2 gL nL
   generalize zs Zcz=A' at eL a1 gM nM
   generalize zs ZaU=B at eB b1 b2 gB nB
   generalize zs Zdk=B' at eB b1 gC nC
   simp only [Tk.z]
   rw [show ((n:Int)==0)=false by simp;omega,cond_false,eL,eB]
   simp only [Zaa]
   rw [a1]
   simp only [Zaa]
   rw [Zaf (n:=257+((ZbW Zaz n:Nat):Int)) (by omega) (by omega),show (257:Int)+((ZbW Zaz n:Nat):Int)=((257+ZbW Zaz n:Nat):Int) by omega,c1]
   simp only [Zaa]
   rw [Zab _ (Zaw (by rw [nL];exact a3)),Zab _ (Zaw (by rw [nM];exact a3)),Int.toNat_natCast,gL,gM,
    Zaf (n:=(n:Int)-((Zaz.getD (ZbW Zaz n) 0:Nat):Int)) (by omega) (by omega),show (n:Int)-((Zaz.getD (ZbW Zaz n) 0:Nat):Int)=((n-Zaz.getD (ZbW Zaz n) 0:Nat):Int) by omega,c2]
   simp only [Zaa]
   rw [b1]
   simp only [Zaa]
   rw [c3]
   simp only [Zaa]
   rw [Zab _ (Zaw (by rw [nB];exact b3)),Zab _ (Zaw (by rw [nC];exact b3)),Int.toNat_natCast,gB,gC,
    Zaf (n:=(k:Int)-((ZaU.getD (ZbW ZaU k) 0:Nat):Int)) (by omega) (by omega),show (k:Int)-((ZaU.getD (ZbW ZaU k) 0:Nat):Int)=((k-ZaU.getD (ZbW ZaU k) 0:Nat):Int) by omega,c4]
   simp only [Zaa,ZqA,List.append_assoc]
theorem Zog (ls ds:List Nat) (hkl:Zbw ls≤32768) (hkd:Zbw ds≤32768) (hl:∀n∈ls,n≤15) (hd:∀n∈ds,n≤15) (h1:ls.length≤300) (h2:ds.length≤300) (h256:256<ls.length) (ts:List Tk) (hts:∀t∈ts,t.Ok∧t.In ls ds) (hn:ts.length≤1000)
  (l:List Bool) (hb:l.length≤60000000):ZbO (ts.map Tk.z) (zs ls) (zs ds) (l.length:Int) (ZfG l)=some ((((l++ZfU ls ds ts).length:Nat):Int),ZfG (l++ZfU ls ds ts)):=by
 unfold ZbO
 rw [Zl8 ls (by omega),Zl8 ds (by omega)]
 simp only [Zae,List.length_map]
 rw [ZaA]
 have h:=Zof ls ds hkl hkd hl hd ts hts hn ts.length 0 l (by omega) (by omega)
 rw [show ((0:Nat):Int)=0 from rfl] at h
 rw [h,List.drop_zero]
 simp only [Zae]
 have hbl:(ZgK ls ds ts).length≤48*ts.length:=by
  clear h hn hb
  induction ts with
  | nil=>simp [ZgK]
  | cons t r ih=>
   have:=ih (fun t h=>hts t (List.mem_cons_of_mem _ h))
   have ht:=Zg9 ls ds hl hd t (hts t (List.mem_cons_self ..)).2
   simp only [ZgK,List.flatMap_cons,List.length_append,List.length_cons] at this ⊢;omega
 have hc:=Zjn ls hkl hl 256 h256 (l++ZgK ls ds ts) (by simp;omega)
 rw [show ((256:Nat):Int)=256 from rfl] at hc
 rw [hc,ZgN]
 simp only [Zae,List.append_assoc]
theorem ZoC (ls ds:List Nat) (hkl:Zbw ls≤32768) (hkd:Zbw ds≤32768) (hl:∀n∈ls,n≤15) (hd:∀n∈ds,n≤15) (ts:List Tk) (hts:∀t∈ts,t.Ok∧t.In ls ds) (hn:ts.length≤1000) :
  ∀(j i:Nat) (l:List Bool),i+j=ts.length→l.length+48*j≤70000000→
  ZbP.l0 (j+1) (ts.map Tk.z,zs ls,zs ds,(i:Int),(oL l:Int),((l.length%8:Nat):Int),zs (Zb7 ls),zs (Zb7 ds),zs Zaz,zs ZaU,oT l) =
   some (zs ls,(oL (l++ZgK ls ds (ts.drop i)):Int),(((l++ZgK ls ds (ts.drop i)).length%8:Nat):Int),zs (Zb7 ls),oT (l++ZgK ls ds (ts.drop i)))
 | 0,i,l,hi,hb=>by
  rw [ZbP.l0.succ];simp only [ZbP.l0.step,List.length_map]
  rw [ZaQ (by omega),List.drop_eq_nil_of_le (by omega)];simp [ZgK]
 | j+1,i,l,hi,hb=>by
  have hlt:i<ts.length:=by omega
  obtain ⟨hok,hin⟩:=hts ts[i] (List.getElem_mem hlt)
  have hdr:ts.drop i=ts[i]::ts.drop (i+1):=List.drop_eq_getElem_cons hlt
  have htl:=Zg9 ls ds hl hd ts[i] hin
  have ih:=ZoC ls ds hkl hkd hl hd ts hts hn j (i+1) (l++ZqA ls ds ts[i]) (by omega) (by simp;omega)
  have e:ZgK ls ds (ts.drop i)=ZqA ls ds ts[i]++ZgK ls ds (ts.drop (i+1)):=by rw [hdr];rfl
  rw [e,←List.append_assoc,←ih]
  rw [ZbP.l0.succ];simp only [ZbP.l0.step,List.length_map]
  rw [ZaP hlt,cond_true,Zab _ Zav,Int.toNat_natCast,ZlS ts i hlt,Zaf (n:=(i:Int)+1) (by omega) (by omega),show (i:Int)+1=((i+1:Nat):Int) by omega]
  cases hk:ts[i] with
  | lit c=>
   rw [hk] at hok hin
   have hc:=ZmF ls hkl hl c hin l (by omega)
   simp only [Tk.z]
   rw [show ((0:Int)==0)=true from rfl,cond_true,hc]
   simp only [Zae,ZqA]
  | far n k=>
   rw [hk] at hok hin
   obtain ⟨o1,o2,o3,o4⟩:=hok
   obtain ⟨i1,i2⟩:=hin
   obtain ⟨a1,a2,a3,a4,a5⟩:=ZfD n o1 o2
   obtain ⟨b1,b2,b3,b4,b5⟩:=Zgh k o3 o4
   have hlb:=ZjA (ZbW Zaz n)
   have hbb:=Zj8 (ZbW ZaU k)
   have hs1:=Zcw ls (257+ZbW Zaz n) i1 hl
   have hs2:=Zcw ds (ZbW ZaU k) i2 hd
   have c1:=ZmF ls hkl hl _ i1 l (by omega)
   have c2:=ZeB (n-Zaz.getD (ZbW Zaz n) 0) (Zcz.getD (ZbW Zaz n) 0) (by omega) (by omega) (l++Zjl ls (257+ZbW Zaz n)) (by simp only [List.length_append];omega)
   have c3:=ZmF ds hkd hd _ i2 ((l++Zjl ls (257+ZbW Zaz n))++ZbM (n-Zaz.getD (ZbW Zaz n) 0) (Zcz.getD (ZbW Zaz n) 0)) (by simp only [List.length_append,Zaj];omega)
   have c4:=ZeB (k-ZaU.getD (ZbW ZaU k) 0) (Zdk.getD (ZbW ZaU k) 0) (by omega) (by omega) (((l++Zjl ls (257+ZbW Zaz n))++ZbM (n-Zaz.getD (ZbW Zaz n) 0) (Zcz.getD (ZbW Zaz n) 0))++Zjl ds (ZbW ZaU k)) (by simp only [List.length_append,Zaj];omega)
   simp only [Tk.z]
   rw [show ((n:Int)==0)=false by simp;omega,cond_false,ZfJ,ZfK]
   simp only [Zae,a2,b2]
   rw [Zaf (n:=257+((ZbW Zaz n:Nat):Int)) (by omega) (by omega),show (257:Int)+((ZbW Zaz n:Nat):Int)=((257+ZbW Zaz n:Nat):Int) by omega,c1]
   simp only [Zae]
   rw [Zab _ (Zaw (by rw [Zag];exact a3)),Zab _ (Zaw (by rw [Zag];exact a3)),Int.toNat_natCast,ZaJ,ZaJ,
    Zaf (n:=(n:Int)-((Zaz.getD (ZbW Zaz n) 0:Nat):Int)) (by omega) (by omega),show (n:Int)-((Zaz.getD (ZbW Zaz n) 0:Nat):Int)=((n-Zaz.getD (ZbW Zaz n) 0:Nat):Int) by omega,c2]
   simp only [Zae]
   rw [c3]
   simp only [Zae]
   rw [Zab _ (Zaw (by rw [Zag];exact b3)),Zab _ (Zaw (by rw [Zag];exact b3)),Int.toNat_natCast,ZaJ,ZaJ,
    Zaf (n:=(k:Int)-((ZaU.getD (ZbW ZaU k) 0:Nat):Int)) (by omega) (by omega),show (k:Int)-((ZaU.getD (ZbW ZaU k) 0:Nat):Int)=((k-ZaU.getD (ZbW ZaU k) 0:Nat):Int) by omega,c4]
   simp only [Zae,ZqA,List.append_assoc]
theorem Zgx (ls ds:List Nat) (hl:∀n∈ls,n≤15) (hd:∀n∈ds,n≤15):∀ts:List Tk,(∀t∈ts,t.Ok∧t.In ls ds)→(ZgK ls ds ts).length≤48*ts.length
 | [],_=>by simp [ZgK]
 | t::r,h=>by
  have:=Zgx ls ds hl hd r (fun t ht=>h t (List.mem_cons_of_mem _ ht))
  have ht:=Zg9 ls ds hl hd t (h t (List.mem_cons_self ..)).2
  simp only [ZgK,List.flatMap_cons,List.length_append,List.length_cons] at this ⊢;omega
theorem ZoD (ls ds:List Nat) (hkl:Zbw ls≤32768) (hkd:Zbw ds≤32768) (hl:∀n∈ls,n≤15) (hd:∀n∈ds,n≤15) (h1:ls.length≤300) (h2:ds.length≤300) (h256:256<ls.length) (ts:List Tk) (hts:∀t∈ts,t.Ok∧t.In ls ds) (hn:ts.length≤1000)
  (l:List Bool) (hb:l.length≤60000000):ZbP (ts.map Tk.z) (zs ls) (zs ds) (oL l:Int) ((l.length%8:Nat):Int) (oT l) =
   some ((oL (l++ZfU ls ds ts):Int),(((l++ZfU ls ds ts).length%8:Nat):Int),oT (l++ZfU ls ds ts)):=by
 unfold ZbP
 rw [Ze3 ls (by omega),Ze3 ds (by omega),ZfJ,ZfK]
 simp only [Zae,List.length_map,Zi5,Zi6]
 rw [ZaA]
 have h:=ZoC ls ds hkl hkd hl hd ts hts hn ts.length 0 l (by omega) (by omega)
 rw [show ((0:Nat):Int)=0 from rfl] at h
 rw [h,List.drop_zero]
 simp only [Zae]
 have hbl:=Zgx ls ds hl hd ts hts
 have hc:=ZmF ls hkl hl 256 h256 (l++ZgK ls ds ts) (by simp;omega)
 rw [show ((256:Nat):Int)=256 from rfl] at hc
 rw [hc,ZgN]
 simp only [Zae,List.append_assoc]
end Ev
end
section
namespace Ev
open Go
def ZhN (l:List Bool):Str:=Zcn (ZfG l)
theorem ZhM (l:List Bool):(ZhN l).length=(l.length+7)/8:=by simp [ZhN,Zcn,Zdq]
theorem ZvA (l:List Bool) (h:8≤l.length):ZfG l=((Zcr (l.take 8):Nat):Int)::ZfG (l.drop 8):=by
 unfold ZfG
 rw [show (l.length+7)/8=((l.drop 8).length+7)/8+1 by rw [List.length_drop];omega,List.range_succ_eq_map,List.map_cons,List.map_map]
 congr 1
 apply List.map_congr_left
 intro i _
 simp only [Function.comp,List.drop_drop]
 rw [show 8*(i+1)=8+8*i by omega]
theorem Zyo (l:List Bool) (h:l.length=8):ZbM (UInt8.ofNat ((Zcr l:Nat):Int).toNat).toNat 8=l:=by
 have hv:=Zmf l
 rw [h] at hv
 rw [Int.toNat_natCast,UInt8.toNat_ofNat_of_lt' (by omega)]
 have:=Zrn l
 rwa [h] at this
theorem Zhs:∀(k:Nat) (l:List Bool),l.length=8*k→ZcQ (ZhN l)=l
 | 0,l,h=>by
  have:l=[]:=List.length_eq_zero_iff.1 (by omega)
  subst this;rfl
 | k+1,l,h=>by
  have e:ZhN l=UInt8.ofNat ((Zcr (l.take 8):Nat):Int).toNat::ZhN (l.drop 8):=by unfold ZhN;rw [ZvA l (by omega)];rfl
  rw [e,ZcQ,Zyo _ (by rw [List.length_take];omega),Zhs k _ (by rw [List.length_drop];omega),List.take_append_drop]
theorem ZsD (l:List Bool):ZcQ (ZhN l)=ZiE l:=by
 have:ZhN l=ZhN (ZiE l):=by unfold ZhN;rw [(Zjv l).2]
 rw [this]
 exact Zhs _ _ (Zgt l)
def Zo4:List Bool:=[true,false,false,false,false,false,false,false]
def ZfW (n:Nat):List Bool:=Zo4++ZbM n 16++ZbM (65535-n) 16
def Zhw (s:Str):Str:=ZhN (ZfW s.length)++s
theorem Zs2 (s:Str) (hs:s.length≤300):ZdC s=some (Zhw s):=by
 have e1:Zfb 1 3 0 []=some (3,[1]):=by kernel_rfl
 have e2:Zkj 3 [1]=some (8,ZfG Zo4):=by kernel_rfl
 have e3:=ZeV s.length 16 (by omega) (by omega) Zo4 (by simp [Zo4])
 have e4:=ZeV (65535-s.length) 16 (by omega) (by omega) (Zo4++ZbM s.length 16) (by simp [Zo4,Zaj])
 rw [show (Zo4.length:Int)=8 from rfl,show ((16:Nat):Int)=16 from rfl] at e3
 rw [show ((16:Nat):Int)=16 from rfl] at e4
 unfold ZdC
 rw [decide_eq_false (by omega),cond_false,e1]
 simp only [Zaa]
 rw [e2]
 simp only [Zaa]
 rw [e3]
 simp only [Zaa]
 rw [Zaf (by omega) (by omega),show (65535:Int)-(s.length:Int)=((65535-s.length:Nat):Int) by omega,e4]
 simp only [Zaa]
 rw [Zad]
 ·rfl
 ·have:=ZhM (ZfW s.length)
  unfold ZhN ZfW at this
  rw [this];simp [Zo4,Zaj];omega
theorem ZvT (s:Str) (hs:s.length≤300):ZeE s=some (Zhw s):=by
 have e1:Zel 1 1 0 0 []=some (1,1,[]):=by kernel_rfl
 have e2:Zel 0 2 1 1 []=some (1,3,[]):=by kernel_rfl
 have e3:ZdJ 1 3 []=some (0,0,oT Zo4):=by kernel_rfl
 have e4:=ZeB s.length 16 (by omega) (by omega) Zo4 (by simp [Zo4])
 have e5:=ZeB (65535-s.length) 16 (by omega) (by omega) (Zo4++ZbM s.length 16) (by simp [Zo4,Zaj])
 rw [show (oL Zo4:Int)=0 by kernel_rfl,show ((Zo4.length%8:Nat):Int)=0 from rfl,show ((16:Nat):Int)=16 from rfl] at e4
 rw [show ((16:Nat):Int)=16 from rfl] at e5
 unfold ZeE
 rw [e1]
 simp only [Zaa]
 rw [e2]
 simp only [Zaa]
 rw [e3]
 simp only [Zaa]
 rw [e4]
 simp only [Zaa]
 rw [Zaf (by omega) (by omega),show (65535:Int)-(s.length:Int)=((65535-s.length:Nat):Int) by omega,e5]
 simp only [Zaa]
 have hl:(ZfW s.length).length=40:=by simp [ZfW,Zo4,Zaj]
 have hq:=ZhM (ZfW s.length)
 unfold ZhN at hq
 have hp:oT (ZfW s.length)=ZfG (ZfW s.length):=by
  have hf:ZiE (ZfW s.length)=ZfW s.length:=by unfold ZiE;rw [hl,show (8-40%8)%8=0 from rfl,List.replicate_zero,List.append_nil]
  rw [(Zjv _).1,hf]
 rw [show oT (Zo4++ZbM s.length 16++ZbM (65535-s.length) 16)=ZfG (ZfW s.length) from hp,Zad (by rw [hq,hl];omega)]
 rfl
theorem ZpC (s:Str):(Zhw s).length=5+s.length:=by
 simp only [Zhw,List.length_append,ZhM]
 simp [ZfW,Zo4,Zaj]
theorem Zpe:Zbw Znl=32768:=by kernel_rfl
theorem Zpf:Zbw Zn6=32768:=by kernel_rfl
theorem Zqf:∀n∈Znl,n≤15:=by
 intro n hn
 simp only [Znl,List.mem_append,List.mem_replicate] at hn
 omega
theorem ZtK:∀n∈Zn6,n≤15:=by
 intro n hn
 simp only [Zn6,List.mem_replicate] at hn
 omega
theorem Zc7:Znl.length=288:=by kernel_rfl
theorem Zhp:Zn6.length=32:=by kernel_rfl
theorem Zx4 (t:Tk) (h:t.Ok):t.In Znl Zn6:=by
 cases t with
 | lit c=>show c<Znl.length;rw [Zc7];have:c<256:=h;omega
 | far l k=>
  obtain ⟨h1,h2,h3,h4⟩:=h
  have a:=(ZfD l h1 h2).2.2.1
  have b:=(Zgh k h3 h4).2.2.1
  show 257+ZbW Zaz l<Znl.length∧ZbW ZaU k<Zn6.length
  rw [Zc7,Zhp];omega
theorem ZgB (s:Str):∀t∈ZiG s,t.Ok:=ZlV s _ 0 (Nat.zero_le _)
theorem ZfT (s:Str):(ZiG s).length≤s.length:=Zld s _ 0
def Zx3 (s:Str):List Bool:=ZbM 1 1++ZbM 1 2++ZfU Znl Zn6 (ZiG s)
def ZhC (s:Str):Str:=ZhN (Zx3 s)
theorem ZtJ (s:Str) (hs:s.length≤300):ZdH s=some (ZhC s):=by
 have hl:=ZfT s
 have e1:=ZeV 1 1 (by omega) (by omega) [] (by simp)
 have e2:=ZeV 1 2 (by omega) (by omega) ([]++ZbM 1 1) (by simp [Zaj])
 have e3:=Zog Znl Zn6 (by rw [Zpe];omega) (by rw [Zpf];omega) Zqf ZtK (by rw [Zc7];omega) (by rw [Zhp];omega) (by rw [Zc7];omega) (ZiG s) (fun t h=>⟨ZgB s t h,Zx4 t (ZgB s t h)⟩) (by omega) ([]++ZbM 1 1++ZbM 1 2) (by simp [Zaj])
 rw [show ((1:Nat):Int)=1 from rfl,show (([]:List Bool).length:Int)=0 from rfl,show ZfG []=[] by kernel_rfl] at e1
 rw [show ((1:Nat):Int)=1 from rfl,show ((2:Nat):Int)=2 from rfl] at e2
 unfold ZdH
 rw [decide_eq_false (by omega),cond_false,e1]
 simp only [Zaa]
 rw [e2]
 simp only [Zaa]
 rw [ZlD,Zmj s hs]
 simp only [Zaa]
 rw [e3]
 rfl
theorem ZvV (s:Str) (hs:s.length≤300):ZeF s=some (ZhC s):=by
 have hl:=ZfT s
 have e1:=ZeB 1 1 (by omega) (by omega) [] (by simp)
 have e2:=ZeB 1 2 (by omega) (by omega) ([]++ZbM 1 1) (by simp [Zaj])
 have e3:=ZoD Znl Zn6 (by rw [Zpe];omega) (by rw [Zpf];omega) Zqf ZtK (by rw [Zc7];omega) (by rw [Zhp];omega) (by rw [Zc7];omega) (ZiG s) (fun t h=>⟨ZgB s t h,Zx4 t (ZgB s t h)⟩) (by omega) ([]++ZbM 1 1++ZbM 1 2) (by simp [Zaj])
 have hb:=Zgx Znl Zn6 Zqf ZtK (ZiG s) (fun t h=>⟨ZgB s t h,Zx4 t (ZgB s t h)⟩)
 have h2:=Zcw Znl 256 (by rw [Zc7];omega) Zqf
 have e4:=Zrk ([]++ZbM 1 1++ZbM 1 2++ZfU Znl Zn6 (ZiG s)) (by simp only [ZgN,List.length_append,Zaj,List.length_nil];omega)
 rw [show ((1:Nat):Int)=1 from rfl,show (oL []:Int)=0 by kernel_rfl,show ((([]:List Bool).length%8:Nat):Int)=0 from rfl,show oT []=[] by kernel_rfl] at e1
 rw [show ((1:Nat):Int)=1 from rfl,show ((2:Nat):Int)=2 from rfl] at e2
 unfold ZeF
 rw [e1]
 simp only [Zaa]
 rw [e2]
 simp only [Zaa]
 rw [ZoU,ZoV,ZmU s hs]
 simp only [Zaa]
 rw [e3]
 simp only [Zaa]
 rw [e4]
 rfl
end Ev
end
section
namespace Ev
open Go
abbrev HT:=Nat×Nat×List Nat
def ZfB (out:List Nat) (S:List Nat):List Nat:=(List.range out.length).map fun i=>out.getD i 0+S.count i
theorem Zay (out S:List Nat):(ZfB out S).length=out.length:=by simp [ZfB]
theorem ZcN (out S:List Nat) (i:Nat) (h:i<out.length):(ZfB out S).getD i 0=out.getD i 0+S.count i:=by
 rw [Zan (by rw [Zay];exact h)]
 simp [ZfB]
theorem Zyq (out:List Nat) {S S':List Nat} (h:S.Perm S'):ZfB out S=ZfB out S':=by
 unfold ZfB
 exact List.map_congr_left fun i _=>by rw [h.count_eq]
theorem ZeK (out:List Nat):ZfB out []=out:=by
 apply List.ext_getElem
 ·exact Zay _ _
 ·intro i h1 h2
  have:=ZcN out [] i h2
  rw [Zan h1,Zan h2] at this
  simpa using this
theorem Zj6 (out S:List Nat) (s:Nat) (h:s<out.length):ZfB out (S++[s])=(ZfB out S).set s ((ZfB out S).getD s 0+1):=by
 apply List.ext_getElem
 ·simp [Zay]
 ·intro i h1 h2
  rw [Zay] at h1
  have e1:=ZcN out (S++[s]) i h1
  have e2:=ZcN out S i h1
  rw [Zan (by rw [Zay];exact h1)] at e1 e2
  have e3:=ZcN out S s h
  rw [e1,List.getElem_set,e2,List.count_append]
  by_cases c:s=i
  ·subst c;rw [if_pos rfl,e3];simp;omega
  ·rw [if_neg c];simp [List.count_cons,c]
def Zko (out:List Nat) (S:List Nat):Nat:=(S.map fun s=>2^(15-out.getD s 0)).sum
def ZjY:Nat→Nat
 | 0=>0
 | 1=>1
 | n+2=>ZjY n+ZjY (n+1)
theorem ZAH (n:Nat):ZjY n≤ZjY (n+1):=by
 cases n with
 | zero=>decide
 | succ n=>show ZjY (n+1)≤ZjY n+ZjY (n+1);omega
theorem Znn {a b:Nat} (h:a≤b):ZjY a≤ZjY b:=by
 induction h with
 | refl=>exact Nat.le_refl _
 | step _ ih=>exact Nat.le_trans ih (ZAH _)
theorem Zqi (n:Nat):1≤ZjY (n+1):=Znn (a:=1) (by omega)
theorem ZjX {d c:Nat} (h:ZjY (d+2)≤c) (hc:c≤400):d≤12:=by
 rcases Nat.lt_or_ge 12 d with h13 | h13
 ·have:ZjY 15≤ZjY (d+2):=Znn (by omega)
  have:ZjY 15=610:=by decide
  omega
 ·exact h13
structure TOk (out:List Nat) (T:Nat) (e:HT):Prop where
 fin:e.2.1∈e.2.2
 fle:∀s∈e.2.2,e.2.1≤s
 lt:∀s∈e.2.2,s<out.length
 kr:Zko out e.2.2=32768
 dep:∃d,(∀s∈e.2.2,out.getD s 0≤d)∧ZjY (d+2)≤e.1∧(1≤d→ZjY (d+1)≤T)
 top:T≤e.1
structure ZsS (out:List Nat) (l:List HT) (T:Nat) (U:List Nat) (tot:Nat):Prop where
 all:∀e∈l,TOk out T e
 perm:(l.flatMap fun e=>e.2.2).Perm U
 sum:(l.map fun e=>e.1).sum=tot
theorem Zt6 {α:Type} {l l':List α} (f:α→Nat) (h:l.Perm l'):(l.map f).sum=(l'.map f).sum:=by
 induction h with
 | nil=>rfl
 | cons x _ ih=>simp [ih]
 | swap x y l=>simp only [List.map_cons,List.sum_cons];omega
 | trans _ _ a b=>exact a.trans b
theorem Zx2 {α β:Type} {l l':List α} (f:α→List β) (h:l.Perm l'):(l.flatMap f).Perm (l'.flatMap f):=by
 induction h with
 | nil=>exact .refl _
 | cons x _ ih=>simpa using List.Perm.append_left _ ih
 | swap x y l=>
  simp only [List.flatMap_cons,←List.append_assoc]
  exact List.Perm.append_right _ List.perm_append_comm
 | trans _ _ a b=>exact a.trans b
theorem ZsS.of_perm {out:List Nat} {l l':List HT} {T:Nat} {U:List Nat} {tot:Nat} (h:ZsS out l T U tot) (p:l.Perm l'):ZsS out l' T U tot:=
 ⟨fun e he=>h.all e (p.mem_iff.2 he),(Zx2 _ p).symm.trans h.perm,(Zt6 _ p).symm.trans h.sum⟩
theorem ZwK (out S:List Nat) (h:∀s∈S,s<out.length∧out.getD s 0≤14) (out':List Nat) (h':∀s∈S,out'.getD s 0=out.getD s 0+1):2*Zko out' S=Zko out S:=by
 induction S with
 | nil=>rfl
 | cons s S ih=>
  have:=ih (fun x hx=>h x (List.mem_cons_of_mem _ hx)) (fun x hx=>h' x (List.mem_cons_of_mem _ hx))
  have h1:=h s (List.mem_cons_self ..)
  have h2:=h' s (List.mem_cons_self ..)
  simp only [Zko,List.map_cons,List.sum_cons] at this ⊢
  rw [h2,Nat.mul_add,this]
  congr 1
  rw [show 15-out.getD s 0=(15-(out.getD s 0+1))+1 by omega,Nat.pow_succ,Nat.mul_comm]
theorem ZwJ (out out' S:List Nat) (h':∀s∈S,out'.getD s 0=out.getD s 0):Zko out' S=Zko out S:=by
 unfold Zko
 congr 1
 exact List.map_congr_left fun s hs=>by rw [h' s hs]
theorem ZiZ (out a b:List Nat):Zko out (a++b)=Zko out a+Zko out b:=by simp [Zko]
def ZjK (a b:HT):HT:=(a.1+b.1,(if b.2.1<a.2.1 then b.2.1 else a.2.1),a.2.2++b.2.2)
theorem ZsS.step {out:List Nat} {a b:HT} {r:List HT} {T:Nat} {U:List Nat} {tot:Nat} (h:ZsS out (a::b::r) T U tot) (hU:U.Nodup) (htot:tot≤400) (hab:a.1≤b.1) (hr:∀e∈r,b.1≤e.1) :
  ZsS (ZfB out (a.2.2++b.2.2)) (ZjK a b::r) b.1 U tot:=by
 have ha:=h.all a (by simp)
 have hb:=h.all b (by simp)
 have hsum:=h.sum
 simp only [List.map_cons,List.sum_cons] at hsum
 have hp:=h.perm
 simp only [List.flatMap_cons] at hp
 have hnd:=(hp.nodup_iff).2 hU
 rw [←List.append_assoc] at hnd
 obtain ⟨da,a1,a2,a3⟩:=ha.dep
 obtain ⟨db,b1,b2,b3⟩:=hb.dep
 have hda:=ZjX a2 (by omega)
 have hdb:=ZjX b2 (by omega)
 have hlt:∀s∈a.2.2++b.2.2,s<out.length:=fun s hs=>(List.mem_append.1 hs).elim (ha.lt s) (hb.lt s)
 have hone:∀s∈a.2.2++b.2.2,(ZfB out (a.2.2++b.2.2)).getD s 0=out.getD s 0+1:=fun s hs=>by
  rw [ZcN out _ s (hlt s hs)]
  have:=(List.nodup_append.1 hnd).1
  rw [this.count,if_pos hs]
 have hother:∀e∈r,∀s∈e.2.2,(ZfB out (a.2.2++b.2.2)).getD s 0=out.getD s 0:=fun e he s hs=>by
  rw [ZcN out _ s ((h.all e (by simp [he])).lt s hs),List.count_eq_zero.2 (fun hm=>(List.nodup_append.1 hnd).2.2 s hm s (List.mem_flatMap.2 ⟨e,he,hs⟩) rfl)];rfl
 refine ⟨fun e he=>?_,?_,?_⟩
 ·rcases List.mem_cons.1 he with rfl | he
  ·have pa:=Zqi (da+1)
   have pb:=Zqi (db+1)
   refine ⟨?_,fun s hs=>?_,fun s hs=>by rw [Zay];exact hlt s hs,?_,⟨max da db+1,fun s hs=>?_,?_,fun _=>?_⟩,Nat.le_add_left _ _⟩
   ·show (if b.2.1<a.2.1 then b.2.1 else a.2.1)∈a.2.2++b.2.2
    split
    ·exact List.mem_append_right _ hb.fin
    ·exact List.mem_append_left _ ha.fin
   ·show (if b.2.1<a.2.1 then b.2.1 else a.2.1)≤s
    rcases List.mem_append.1 hs with hs | hs
    ·have:=ha.fle s hs;split<;>omega
    ·have:=hb.fle s hs;split<;>omega
   ·have h2:=ZwK out (a.2.2++b.2.2) (fun s hs=>⟨hlt s hs,by
     rcases List.mem_append.1 hs with hs | hs
     ·have:=a1 s hs;omega
     ·have:=b1 s hs;omega⟩) _ hone
    rw [ZiZ out,ha.kr,hb.kr] at h2
    show Zko _ (a.2.2++b.2.2)=32768
    omega
   ·rw [hone s hs]
    rcases List.mem_append.1 hs with hs | hs
    ·have:=a1 s hs;omega
    ·have:=b1 s hs;omega
   ·show ZjY (max da db+1+2)≤a.1+b.1
    have e:ZjY (max da db+1+2)=ZjY (max da db+1)+ZjY (max da db+2):=rfl
    rw [e]
    rcases Nat.le_total db da with hd | hd
    ·rw [Nat.max_eq_left hd]
     have:ZjY (da+1)≤b.1:=by
      rcases Nat.eq_zero_or_pos da with h0 | h0
      ·subst h0;exact Nat.le_trans (Zqi 0 |> fun _=>(by simpa [ZjY] using pb)) b2
      ·exact Nat.le_trans (a3 h0) hb.top
     omega
    ·rw [Nat.max_eq_right hd]
     have:ZjY (db+1)≤a.1:=by
      rcases Nat.eq_zero_or_pos db with h0 | h0
      ·subst h0;exact Nat.le_trans (by simpa [ZjY] using pa) a2
      ·exact Nat.le_trans (b3 h0) ha.top
     omega
   ·show ZjY (max da db+1+1)≤b.1
    rcases Nat.le_total db da with hd | hd
    ·rw [Nat.max_eq_left hd];exact Nat.le_trans a2 hab
    ·rw [Nat.max_eq_right hd];exact b2
  ·have he':=h.all e (by simp [he])
   obtain ⟨d,d1,d2,d3⟩:=he'.dep
   exact ⟨he'.fin,he'.fle,fun s hs=>by rw [Zay];exact he'.lt s hs,(ZwJ _ _ _ (hother e he)).trans he'.kr,
    ⟨d,fun s hs=>by rw [hother e he s hs];exact d1 s hs,d2,fun h1=>Nat.le_trans (d3 h1) hb.top⟩,hr e he⟩
 ·simp only [List.flatMap_cons,ZjK,List.append_assoc];exact hp
 ·simp only [List.map_cons,List.sum_cons,ZjK];omega
end Ev
end
section
namespace Ev
open Go
def ltH (x y:HT):Bool:=decide (x.1<y.1)||(decide (x.1=y.1)&&decide (x.2.1<y.2.1))
def HT.d:HT:=(0,0,[])
def Zh0 (l:List HT):Nat→Nat→Nat→Nat
 | 0,a,_=>a
 | f+1,a,i=>Zh0 l f (if ltH (l.getD i HT.d) (l.getD a HT.d) then i else a) (i+1)
def lst (l:List HT):Nat:=Zh0 l (l.length-1) 0 1
def less (l:List HT) (k:Nat):List HT:=l.take k++l.drop (k+1)
theorem Zi3 (l:List HT):∀(f a i:Nat),i+f=l.length→a<l.length→(∀j,j<i→(l.getD a HT.d).1≤(l.getD j HT.d).1)→
  Zh0 l f a i<l.length∧∀j,j<l.length→(l.getD (Zh0 l f a i) HT.d).1≤(l.getD j HT.d).1
 | 0,a,i,h,ha,hj=>⟨ha,fun j hl=>hj j (by omega)⟩
 | f+1,a,i,h,ha,hj=>by
  rw [Zh0]
  by_cases c:ltH (l.getD i HT.d) (l.getD a HT.d)=true
  ·rw [if_pos c]
   refine Zi3 l f i (i+1) (by omega) (by omega) fun j hl=>?_
   have:(l.getD i HT.d).1≤(l.getD a HT.d).1:=by
    simp only [ltH,Bool.or_eq_true,Bool.and_eq_true,decide_eq_true_eq] at c;omega
   by_cases e:j=i
   ·subst e;exact Nat.le_refl _
   ·have:=hj j (by omega);omega
  ·rw [if_neg c]
   refine Zi3 l f a (i+1) (by omega) ha fun j hl=>?_
   by_cases e:j=i
   ·subst e
    simp only [ltH,Bool.or_eq_true,Bool.and_eq_true,decide_eq_true_eq] at c;omega
   ·exact hj j (by omega)
theorem Zhk (l:List HT) (h:0<l.length):lst l<l.length∧∀e∈l,(l.getD (lst l) HT.d).1≤e.1:=by
 have:=Zi3 l (l.length-1) 0 1 (by omega) h (fun j hj=>by rw [show j=0 by omega];exact Nat.le_refl _)
 refine ⟨this.1,fun e he=>?_⟩
 obtain ⟨j,hj,rfl⟩:=List.getElem_of_mem he
 have h2:=this.2 j hj
 rw [Zan hj] at h2
 exact h2
theorem ZmM (l:List HT) (k:Nat) (h:k<l.length):l.Perm (l.getD k HT.d::less l k):=by
 have e:l=l.take k++(l.getD k HT.d::l.drop (k+1)):=by
  rw [Zan h,←List.drop_eq_getElem_cons h,List.take_append_drop]
 have p:=List.perm_middle (a:=l.getD k HT.d) (l₁:=l.take k) (l₂:=l.drop (k+1))
 have:l.Perm (l.take k++(l.getD k HT.d::l.drop (k+1))):=by rw [←e]
 exact this.trans p
theorem Zhm (l:List HT) (k:Nat) (h:k<l.length):(less l k).length+1=l.length:=by
 have:=(ZmM l k h).length_eq
 simpa using this.symm
def ZhA (l:List HT):HT:=l.getD (lst l) HT.d
def Zhb (l:List HT):HT:=ZhA (less l (lst l))
def Zjt (l:List HT):List HT:=less (less l (lst l)) (lst (less l (lst l)))
def ZgY:Nat→List Nat→List HT→List Nat
 | 0,out,_=>out
 | n+1,out,l=>if 1<l.length then ZgY n (ZfB out ((ZhA l).2.2++(Zhb l).2.2)) (Zjt l++[ZjK (ZhA l) (Zhb l)]) else out
theorem ZyW (l:List HT) (h:1<l.length):l.Perm (ZhA l::Zhb l::Zjt l)∧(ZhA l).1≤(Zhb l).1∧(∀e∈Zjt l,(Zhb l).1≤e.1)∧(Zjt l).length+2=l.length:=by
 obtain ⟨h1,h2⟩:=Zhk l (by omega)
 have p1:=ZmM l (lst l) h1
 have n1:=Zhm l (lst l) h1
 obtain ⟨h3,h4⟩:=Zhk (less l (lst l)) (by omega)
 have p2:=ZmM (less l (lst l)) _ h3
 have n2:=Zhm (less l (lst l)) _ h3
 have pp:l.Perm (ZhA l::Zhb l::Zjt l):=p1.trans (p2.cons _)
 refine ⟨pp,h2 _ (pp.mem_iff.2 (by simp)),fun e he=>h4 e (p2.mem_iff.2 (List.mem_cons_of_mem _ he)),?_⟩
 unfold Zjt;omega
theorem ZsS.next {out:List Nat} {l:List HT} {T:Nat} {U:List Nat} {tot:Nat} (h:ZsS out l T U tot) (hU:U.Nodup) (htot:tot≤400) (hl:1<l.length) :
  ZsS (ZfB out ((ZhA l).2.2++(Zhb l).2.2)) (Zjt l++[ZjK (ZhA l) (Zhb l)]) (Zhb l).1 U tot∧(Zjt l++[ZjK (ZhA l) (Zhb l)]).length+1=l.length:=by
 obtain ⟨p,h1,h2,h3⟩:=ZyW l hl
 refine ⟨((h.of_perm p).step hU htot h1 h2).of_perm ?_,by simp;omega⟩
 exact (List.perm_append_comm (l₁:=[ZjK (ZhA l) (Zhb l)]) (l₂:=Zjt l))
theorem Zm7 {U:List Nat} {tot:Nat} (hU:U.Nodup) (htot:tot≤400):∀(n:Nat) (out:List Nat) (l:List HT) (T:Nat),l.length=n+1→ZsS out l T U tot→
  (ZgY n out l).length=out.length∧(∀i,i<out.length→i∉U→(ZgY n out l).getD i 0=out.getD i 0)∧∃e T',ZsS (ZgY n out l) [e] T' U tot
 | 0,out,l,T,hl,h=>by
  obtain ⟨e,rfl⟩:=List.length_eq_one_iff.1 hl
  exact ⟨rfl,fun _ _ _=>rfl,e,T,h⟩
 | n+1,out,l,T,hl,h=>by
  obtain ⟨h1,h2⟩:=h.next hU htot (by omega)
  have ih:=Zm7 hU htot n _ _ _ (by omega) h1
  rw [ZgY,if_pos (by omega)]
  refine ⟨ih.1.trans (Zay _ _),fun i hi hn=>?_,ih.2.2⟩
  rw [ih.2.1 i (by rw [Zay];exact hi) hn,ZcN _ _ _ hi,List.count_eq_zero.2,Nat.add_zero]
  intro hm
  apply hn
  obtain ⟨p,_⟩:=ZyW l (by omega)
  refine h.perm.mem_iff.1 (List.mem_flatMap.2 ?_)
  rcases List.mem_append.1 hm with hm | hm
  ·exact ⟨_,p.mem_iff.2 (by simp),hm⟩
  ·exact ⟨_,p.mem_iff.2 (by simp),hm⟩
def Zce (ns:List Nat):List Nat:=(List.range ns.length).filter fun i=>decide (0<ns.getD i 0)
theorem Zkk (n:Nat) (r:List Nat):Zce (n::r)=(if 0<n then [0] else [])++(Zce r).map (· + 1):=by
 unfold Zce
 rw [List.length_cons,List.range_succ_eq_map,List.filter_cons,List.filter_map]
 by_cases h:0<n
 ·rw [if_pos (by simpa using h),if_pos h];rfl
 ·rw [if_neg (by simpa using h),if_neg h];rfl
theorem ZgM:∀ns,Zfc ns=(Zce ns).length
 | []=>rfl
 | n::r=>by
  rw [Zkk,Zfc,ZgM r]
  by_cases h:0<n
  ·rw [if_pos h,if_pos h];simp;omega
  ·rw [if_neg h,if_neg h];simp
theorem Zi9:∀ns,Zbw ns=Zko ns (Zce ns)
 | []=>rfl
 | n::r=>by
  have e:Zko (n::r) ((Zce r).map (· + 1))=Zko r (Zce r):=by
   unfold Zko;rw [List.map_map];rfl
  rw [Zkk,Zbw,Zi9 r,ZiZ,e]
  by_cases h:0<n
  ·rw [if_pos h,if_pos h];simp [Zko]
  ·rw [if_neg h,if_neg h];simp [Zko]
theorem Zml:∀ns:List Nat,((Zce ns).map fun i=>ns.getD i 0).sum=ns.sum
 | []=>rfl
 | n::r=>by
  have e:(((Zce r).map (· + 1)).map fun i=>(n::r).getD i 0)=(Zce r).map fun i=>r.getD i 0:=by rw [List.map_map];rfl
  rw [Zkk,List.map_append,e,List.sum_append,Zml r,List.sum_cons]
  by_cases h:0<n
  ·rw [if_pos h];simp
  ·rw [if_neg h];simp;omega
theorem ZcJ (ns:List Nat) (i:Nat):i∈Zce ns↔i<ns.length∧0<ns.getD i 0:=by
 simp [Zce]
theorem ZiX (ns:List Nat):(Zce ns).Nodup:=List.Pairwise.filter _ List.nodup_range
def Zgn (cs:List Nat):List HT:=(Zce cs).map fun i=>(cs.getD i 0,i,[i])
def ZdM (cs:List Nat):List Nat:=
 if (Zce cs).length=1 then (List.replicate cs.length 0).set ((Zce cs).getD 0 0) 1 else ZgY ((Zce cs).length-1) (List.replicate cs.length 0) (Zgn cs)
theorem Zdz (n i:Nat):(List.replicate n 0).getD i 0=0:=by
 by_cases h:i<n
 ·rw [Zan (by simpa using h)];simp
 ·simp [List.getD,Nat.le_of_not_lt h]
theorem ZkM (cs:List Nat):ZsS (List.replicate cs.length 0) (Zgn cs) 0 (Zce cs) cs.sum:=by
 refine ⟨fun e he=>?_,?_,?_⟩
 ·obtain ⟨i,hi,rfl⟩:=List.mem_map.1 he
  obtain ⟨h1,h2⟩:=(ZcJ cs i).1 hi
  refine ⟨by simp,fun s hs=>?_,fun s hs=>?_,?_,⟨0,fun s hs=>?_,?_,fun h=>?_⟩,Nat.zero_le _⟩
  ·have:s=i:=by simpa using hs
   subst this;exact Nat.le_refl _
  ·have:s=i:=by simpa using hs
   subst this;simpa using h1
  ·simp only [Zko,List.map_cons,List.map_nil,List.sum_cons,List.sum_nil,Zdz];rfl
  ·rw [Zdz];exact Nat.le_refl _
  ·show 1≤cs.getD i 0;omega
  ·omega
 ·unfold Zgn
  rw [List.flatMap_map]
  have:∀l:List Nat,(l.flatMap fun i=>[i])=l:=fun l=>by induction l<;>simp_all
  rw [this]
 ·unfold Zgn
  rw [List.map_map]
  exact Zml cs
structure LOk (cs out:List Nat) (d:Nat):Prop where
 len:out.length=cs.length
 pos:∀i,0<cs.getD i 0↔0<out.getD i 0
 le:∀n∈out,n≤d
 ok:Zbw out=32768∨Zfc out=1∧Zbw out=16384
theorem ZiY (cs out:List Nat) (h:out.length=cs.length) (hp:∀i,0<cs.getD i 0↔0<out.getD i 0):Zce out=Zce cs:=by
 unfold Zce
 rw [h]
 exact List.filter_congr fun i _=>by simp only [decide_eq_decide];exact (hp i).symm
theorem Zt8 (out:List Nat):∀S:List Nat,S≠[]→0<Zko out S
 | [],h=>absurd rfl h
 | s::S,_=>by
  have:=Nat.two_pow_pos (15-out.getD s 0)
  simp only [Zko,List.map_cons,List.sum_cons];omega
theorem Zl4 (cs:List Nat) (h0:Zce cs≠[]) (ht:cs.sum≤400):∃d,d≤12∧LOk cs (ZdM cs) d∧(d≤1∨ZjY (d+2)≤cs.sum):=by
 have hU:=ZiX cs
 by_cases h1:(Zce cs).length=1
 ·obtain ⟨k,hk⟩:=List.length_eq_one_iff.1 h1
  have hm:k<cs.length∧0<cs.getD k 0:=(ZcJ cs k).1 (by rw [hk];simp)
  have e:ZdM cs=(List.replicate cs.length 0).set k 1:=by unfold ZdM;rw [if_pos h1,hk];rfl
  have hlen:(ZdM cs).length=cs.length:=by rw [e];simp
  have hget:∀i,(ZdM cs).getD i 0=if i=k then 1 else 0:=fun i=>by
   rw [e]
   by_cases hi:i<cs.length
   ·rw [Zan (by simpa using hi),List.getElem_set]
    by_cases c:k=i
    ·rw [if_pos c,if_pos c.symm]
    ·rw [if_neg c,if_neg (fun x=>c x.symm)];simp
   ·rw [if_neg (by omega)]
    simp [List.getD,Nat.le_of_not_lt hi]
  have hpos:∀i,0<cs.getD i 0↔0<(ZdM cs).getD i 0:=fun i=>by
   rw [hget i]
   constructor
   ·intro h
    have hi:i<cs.length:=by
     rcases Nat.lt_or_ge i cs.length with h' | h'
     ·exact h'
     ·rw [show cs.getD i 0=0 by simp [List.getD,h']] at h;omega
    have:i∈Zce cs:=(ZcJ cs i).2 ⟨hi,h⟩
    rw [hk] at this
    rw [if_pos (by simpa using this)];omega
   ·intro h
    by_cases c:i=k
    ·rw [c];exact hm.2
    ·rw [if_neg c] at h;omega
  have hc:=ZiY cs (ZdM cs) hlen hpos
  refine ⟨1,by omega,⟨hlen,hpos,fun n hn=>?_,.inr ⟨by rw [ZgM,hc];exact h1,?_⟩⟩,.inl (Nat.le_refl _)⟩
  ·obtain ⟨j,hj,rfl⟩:=List.getElem_of_mem hn
   have:=hget j
   rw [Zan hj] at this
   rw [this];split<;>omega
  ·rw [Zi9,hc,hk]
   simp only [Zko,List.map_cons,List.map_nil,List.sum_cons,List.sum_nil,hget,if_true];rfl
 ·have hn:0<(Zce cs).length:=List.length_pos_iff.2 h0
  have e:ZdM cs=ZgY ((Zce cs).length-1) (List.replicate cs.length 0) (Zgn cs):=by unfold ZdM;rw [if_neg h1]
  obtain ⟨l1,l2,t,T',hI⟩:=Zm7 hU ht ((Zce cs).length-1) (List.replicate cs.length 0) (Zgn cs) 0 (by simp [Zgn];omega) (ZkM cs)
  rw [←e] at l1 l2 hI
  rw [List.length_replicate] at l1 l2
  have tok:=hI.all t (by simp)
  obtain ⟨d,d1,d2,d3⟩:=tok.dep
  have hts:t.1=cs.sum:=by simpa using hI.sum
  have hpp:t.2.2.Perm (Zce cs):=by simpa using hI.perm
  have hkr:Zko (ZdM cs) (Zce cs)=32768:=by
   have:=Zt6 (fun s=>2^(15-(ZdM cs).getD s 0)) hpp
   unfold Zko;rw [←this];exact tok.kr
  have hd:d≤12:=ZjX d2 (by omega)
  have hpos:∀i,0<cs.getD i 0↔0<(ZdM cs).getD i 0:=fun i=>by
   constructor
   ·intro h
    have hi:i<cs.length:=by
     rcases Nat.lt_or_ge i cs.length with h' | h'
     ·exact h'
     ·rw [show cs.getD i 0=0 by simp [List.getD,h']] at h;omega
    have hmem:i∈Zce cs:=(ZcJ cs i).2 ⟨hi,h⟩
    rcases Nat.eq_zero_or_pos ((ZdM cs).getD i 0) with hz | hz
    ·obtain ⟨a,b,hab⟩:=List.append_of_mem hmem
     rw [hab,ZiZ] at hkr
     have ec:Zko (ZdM cs) (i::b)=32768+Zko (ZdM cs) b:=by simp only [Zko,List.map_cons,List.sum_cons,hz]
     have ha:a=[]:=by
      rcases Classical.em (a=[]) with h' | h'
      ·exact h'
      ·have:=Zt8 (ZdM cs) a h';omega
     have hb:b=[]:=by
      rcases Classical.em (b=[]) with h' | h'
      ·exact h'
      ·have:=Zt8 (ZdM cs) b h';omega
     rw [hab,ha,hb] at h1
     exact absurd rfl h1
    ·exact hz
   ·intro h
    rcases Nat.lt_or_ge i cs.length with hi | hi
    ·rcases Classical.em (i∈Zce cs) with hm | hm
     ·exact ((ZcJ cs i).1 hm).2
     ·rw [l2 i hi hm,Zdz] at h;omega
    ·rw [show (ZdM cs).getD i 0=0 by simp [List.getD,l1,hi]] at h;omega
  have hc:=ZiY cs (ZdM cs) l1 hpos
  refine ⟨d,hd,⟨l1,hpos,fun n hn=>?_,.inl (by rw [Zi9,hc];exact hkr)⟩,.inr (by rw [←hts];exact d2)⟩
  obtain ⟨j,hj,rfl⟩:=List.getElem_of_mem hn
  rcases Classical.em (j∈Zce cs) with hm | hm
  ·have:=d1 j (hpp.mem_iff.2 hm)
   rwa [Zan hj] at this
  ·have:=l2 j (by omega) hm
   rw [Zan hj,Zdz] at this
   omega
end Ev
end
section
namespace Ev
open Go
def zH (e:HT):Int×Int×List Int:=((e.1:Int),(e.2.1:Int),zs e.2.2)
theorem Zt0 (L:List HT) (i:Nat):(L.map zH).getD i (0,0,[])=zH (L.getD i HT.d):=by
 simp only [List.getD_eq_getElem?_getD,List.getElem?_map]
 cases L[i]?<;>rfl
theorem Zxp (a b c d:Nat):(bif decide ((a:Int)<(b:Int)) then some true else bif ((a:Int)==(b:Int)) then some (decide ((c:Int)<(d:Int))) else some false)=some (decide (a<b)||(decide (a=b)&&decide (c<d))):=by
 by_cases h1:a<b
 ·rw [decide_eq_true (show (a:Int)<(b:Int) by omega),decide_eq_true h1];rfl
 ·rw [decide_eq_false (show ¬(a:Int)<(b:Int) by omega),decide_eq_false h1]
  by_cases h2:a=b
  ·subst h2
   rw [show ((a:Int)==(a:Int))=true by simp,decide_eq_true (rfl:a=a),cond_false,cond_true,Bool.false_or,Bool.true_and]
   congr 1
   simp
  ·rw [show ((a:Int)==(b:Int))=false by simp;omega,decide_eq_false h2];rfl
theorem Zzf (x y:HT):(bif decide ((zH x).1<(zH y).1) then some true else bif ((zH x).1==(zH y).1) then some (decide ((zH x).2.1<(zH y).2.1)) else some false)=some (ltH x y):=Zxp x.1 y.1 x.2.1 y.2.1
theorem ZkP (L:List HT) (hn:L.length≤1000):∀(j a i:Nat),i+j=L.length→a<L.length→Zca.l0 (j+1) (L.map zH,(a:Int),(i:Int))=some (Zh0 L j a i:Int)
 | 0,a,i,h,ha=>by
  rw [Zca.l0.succ];simp only [Zca.l0.step,List.length_map]
  rw [ZaQ (by omega)];rfl
 | j+1,a,i,h,ha=>by
  have hi:i<L.length:=by omega
  rw [Zca.l0.succ];simp only [Zca.l0.step,List.length_map]
  rw [ZaP hi,cond_true,Zab _ Zav,Zab _ (Zaw ha),Zab _ Zav,Zab _ (Zaw ha),Zab _ Zav,Zab _ (Zaw ha),Int.toNat_natCast,Int.toNat_natCast,Zt0,Zt0]
  rw [Zzf,Zaf (by omega) (by omega),show (i:Int)+1=((i+1:Nat):Int) by omega,Zh0]
  simp only [Zaa]
  cases ltH (L.getD i HT.d) (L.getD a HT.d)
  ·exact ZkP L hn j a (i+1) (by omega) ha
  ·exact ZkP L hn j i (i+1) (by omega) hi
theorem ZoX (L:List HT) (hn:L.length≤1000) (h0:0<L.length):Zca (L.map zH)=some (lst L:Int):=by
 unfold Zca
 rw [List.length_map,show (((L.length:Int)-1).toNat+1)=(L.length-1)+1 by omega]
 have:=ZkP L hn (L.length-1) 0 1 (by omega) h0
 rw [show ((0:Nat):Int)=0 from rfl,show ((1:Nat):Int)=1 from rfl] at this
 rw [this];rfl
theorem ZrQ (L:List HT) (hn:L.length≤1000) (k:Nat) (hk:k<L.length):Zf6 (L.map zH) (k:Int)=some ((less L k).map zH):=by
 unfold Zf6
 rw [Zaf (by omega) (by omega),show (k:Int)+1=((k+1:Nat):Int) by omega,Int.toNat_natCast,Int.toNat_natCast]
 rw [Zab _ (by simp;omega),Zad (by simp;omega),Zab _ (by simp;omega),Zad (by simp;omega)]
 simp only [less,List.nil_append,List.map_append,List.map_take,List.map_drop]
theorem ZrS (f:Int) (list:List (Int×Int×List Int)) (p1 p2:Int) (p3:List Int) (q1 q2:Int) (q3:List Int) (out S:List Nat) (hS:∀s∈S,s<out.length∧out.getD s 0≤1000) (hn:S.length≤1000):∀(j i:Nat),i+j=S.length→
  Zbi.l1 (j+1) (f,(i:Int),zs (ZfB out (S.take i)),list,p1,p2,p3,q1,q2,q3,zs S)=some (f,zs (ZfB out S),list,p1,p2,p3,q1,q2,q3,zs S)
 | 0,i,h=>by
  rw [Zbi.l1.succ];simp only [Zbi.l1.step,Zag]
  rw [ZaQ (by omega),List.take_of_length_le (by omega)];rfl
 | j+1,i,h=>by
  have hi:i<S.length:=by omega
  have hg:S.getD i 0=S[i]:=Zan hi
  obtain ⟨h1,h2⟩:=hS S[i] (List.getElem_mem hi)
  have hb:=ZcN out (S.take i) S[i] h1
  have hc:=List.count_le_length (a:=S[i]) (l:=S.take i)
  rw [List.length_take] at hc
  rw [Zbi.l1.succ];simp only [Zbi.l1.step,Zag,Zay]
  rw [ZaP hi,cond_true,Zab _ Zav,Zab _ Zav,Int.toNat_natCast,ZaJ,hg,Zab _ (Zaw h1),Zab _ (Zaw h1),Int.toNat_natCast,ZaJ,
   Zaf (n:=(((ZfB out (S.take i)).getD S[i] 0:Nat):Int)+1) (by omega) (by omega),show (((ZfB out (S.take i)).getD S[i] 0:Nat):Int)+1=(((ZfB out (S.take i)).getD S[i] 0+1:Nat):Int) by omega,ZfR,
   ←Zj6 out (S.take i) S[i] h1,←List.take_succ_eq_append_getElem hi,Zaf (by omega) (by omega),show (i:Int)+1=((i+1:Nat):Int) by omega]
  exact ZrS f list p1 p2 p3 q1 q2 q3 out S hS hn j (i+1) (by omega)
theorem ZAd (a b:HT):zH (ZjK a b)=(((a.1+b.1:Nat):Int),(if b.2.1<a.2.1 then ((b.2.1:Nat):Int) else ((a.2.1:Nat):Int)),zs (a.2.2++b.2.2)):=by
 unfold zH ZjK
 dsimp only
 split<;>rfl
theorem ZsS.some {out:List Nat} {l:List HT} {T:Nat} {U:List Nat} {tot:Nat} (h:ZsS out l T U tot) (ht:tot≤400) (hU:U.length≤400) (e:HT) (he:e∈l):e.1≤400∧e.2.2.length≤400∧e.2.1<out.length∧∀s∈e.2.2,s<out.length∧out.getD s 0≤1000:=by
 have hk:=h.all e he
 have h1:e.1≤tot:=by
  rw [←h.sum]
  obtain ⟨a,b,rfl⟩:=List.append_of_mem he
  simp;omega
 obtain ⟨d,d1,d2,d3⟩:=hk.dep
 have hd:=ZjX d2 (by omega)
 refine ⟨by omega,?_,hk.lt _ hk.fin,fun s hs=>⟨hk.lt s hs,by have:=d1 s hs;omega⟩⟩
 have:=h.perm.length_eq
 obtain ⟨a,b,rfl⟩:=List.append_of_mem he
 simp only [List.flatMap_append,List.flatMap_cons,List.length_append] at this
 omega
theorem ZrR {U:List Nat} {tot:Nat} (hU:U.Nodup) (htot:tot≤400) (hUl:U.length≤400):∀(n:Nat) (out:List Nat) (L:List HT) (T:Nat),L.length≤n+1→L.length≤400→ZsS out L T U tot→
  Zbi.l2 (n+1) (zs out,L.map zH)=some (zs (ZgY n out L))
 | 0,out,L,T,hl,hl2,h=>by
  rw [Zbi.l2.succ];simp only [Zbi.l2.step,List.length_map]
  rw [decide_eq_false (by omega)];rfl
 | n+1,out,L,T,hl,hl2,h=>by
  rw [Zbi.l2.succ];simp only [Zbi.l2.step,List.length_map]
  by_cases h1:1<L.length
  ·obtain ⟨hnx,hnl⟩:=h.next hU htot h1
   obtain ⟨pp,_,_,hrl⟩:=ZyW L h1
   obtain ⟨k1,_⟩:=Zhk L (by omega)
   have n1:=Zhm L (lst L) k1
   obtain ⟨k2,_⟩:=Zhk (less L (lst L)) (by omega)
   obtain ⟨a1,a2,a3,a4⟩:=h.some htot hUl (ZhA L) (pp.mem_iff.2 (by simp))
   obtain ⟨b1,b2,b3,b4⟩:=h.some htot hUl (Zhb L) (pp.mem_iff.2 (by simp))
   have hrest:less (less L (lst L)) (lst (less L (lst L)))=Zjt L:=rfl
   have hf:L.getD (lst L) HT.d=ZhA L:=rfl
   have hs:(less L (lst L)).getD (lst (less L (lst L))) HT.d=Zhb L:=rfl
   rw [ZgY,if_pos h1,decide_eq_true (by omega),cond_true,ZoX L (by omega) (by omega)]
   simp only [Zaa]
   rw [Zab _ (Zaw k1),ZrQ L (by omega) _ k1]
   simp only [Zaa]
   rw [ZoX _ (by omega) (by omega)]
   simp only [Zaa,List.length_map]
   rw [Zab _ (Zaw k2),ZrQ _ (by omega) _ k2,Int.toNat_natCast,Int.toNat_natCast,Zt0,Zt0,hf,hs,hrest]
   simp only [Zaa]
   have hin:∀f:Int,Zbi.l1 (((ZhA L).2.2++(Zhb L).2.2).length+1) (f,0,zs out,(Zjt L).map zH,(zH (ZhA L)).1,(zH (ZhA L)).2.1,(zH (ZhA L)).2.2,(zH (Zhb L)).1,(zH (Zhb L)).2.1,(zH (Zhb L)).2.2,zs ((ZhA L).2.2++(Zhb L).2.2)) =
     some (f,zs (ZfB out ((ZhA L).2.2++(Zhb L).2.2)),(Zjt L).map zH,(zH (ZhA L)).1,(zH (ZhA L)).2.1,(zH (ZhA L)).2.2,(zH (Zhb L)).1,(zH (Zhb L)).2.1,(zH (Zhb L)).2.2,zs ((ZhA L).2.2++(Zhb L).2.2)):=fun f=>by
    have:=ZrS f ((Zjt L).map zH) (zH (ZhA L)).1 (zH (ZhA L)).2.1 (zH (ZhA L)).2.2 (zH (Zhb L)).1 (zH (Zhb L)).2.1 (zH (Zhb L)).2.2 out ((ZhA L).2.2++(Zhb L).2.2)
     (fun s hs=>(List.mem_append.1 hs).elim (a4 s) (b4 s)) (by rw [List.length_append];omega) _ 0 (Nat.zero_add _)
    rw [List.take_zero,ZeK] at this
    exact this
   have ih:=ZrR hU htot hUl n _ _ _ (by omega) (by omega) hnx
   have hcat:([]++(zH (ZhA L)).2.2)++(zH (Zhb L)).2.2=zs ((ZhA L).2.2++(Zhb L).2.2):=by rw [List.nil_append,ZfS];rfl
   have la:(zH (ZhA L)).2.2.length=(ZhA L).2.2.length:=Zag _
   have lb:(zH (Zhb L)).2.2.length=(Zhb L).2.2.length:=Zag _
   have hw:w64 ((zH (ZhA L)).1+(zH (Zhb L)).1)=(((ZhA L).1+(Zhb L).1:Nat):Int):=by
    show w64 (((ZhA L).1:Int)+((Zhb L).1:Int))=_
    rw [Zaf (by omega) (by omega)];omega
   rw [←ih,List.map_append,List.map_cons,List.map_nil,ZAd]
   have hdec:decide ((zH (Zhb L)).2.1<(zH (ZhA L)).2.1)=decide ((Zhb L).2.1<(ZhA L).2.1):=by simp [zH]
   rw [hdec]
   by_cases hc:(Zhb L).2.1<(ZhA L).2.1
   ·rw [decide_eq_true hc,if_pos hc,cond_true]
    simp only [Zaa]
    rw [Zad (by rw [la,List.length_nil];omega),Zad (by rw [List.length_append,la,lb,List.length_nil];omega),hcat,Zag,ZaA,hin]
    simp only [Zaa]
    rw [Zad (by simp;omega),hw]
    rfl
   ·rw [decide_eq_false hc,if_neg hc,cond_false]
    simp only [Zaa]
    rw [Zad (by rw [la,List.length_nil];omega),Zad (by rw [List.length_append,la,lb,List.length_nil];omega),hcat,Zag,ZaA,hin]
    simp only [Zaa]
    rw [Zad (by simp;omega),hw]
    rfl
  ·rw [ZgY,if_neg h1,decide_eq_false (by omega)];rfl
theorem ZmX (cs:List Nat) (hn:cs.length≤1000) (out:List Int):∀(j i:Nat) (acc:List HT),i+j=cs.length→acc.length≤i→
  Zbi.l0 (j+1) (zs cs,(i:Int),out,acc.map zH)=some (out,(acc++((List.range' i j).filter fun i=>decide (0<cs.getD i 0)).map fun i=>(cs.getD i 0,i,[i])).map zH)
 | 0,i,acc,h,ha=>by
  rw [Zbi.l0.succ];simp only [Zbi.l0.step,Zag]
  rw [ZaQ (by omega)];simp
 | j+1,i,acc,h,ha=>by
  have hi:i<cs.length:=by omega
  rw [Zbi.l0.succ];simp only [Zbi.l0.step,Zag]
  rw [ZaP hi,cond_true,Zab _ Zav,Zab _ Zav,Int.toNat_natCast,ZaJ,Zad (by simp;omega),Zaf (by omega) (by omega),show (i:Int)+1=((i+1:Nat):Int) by omega,List.range'_succ,List.filter_cons]
  by_cases c:0<cs.getD i 0
  ·rw [decide_eq_true (by omega),cond_true,if_pos (decide_eq_true c)]
   have:=ZmX cs hn out j (i+1) (acc++[(cs.getD i 0,i,[i])]) (by omega) (by simp;omega)
   rw [List.map_append] at this
   rw [show acc.map zH++[(((cs.getD i 0:Nat):Int),(i:Int),[(i:Int)])]=acc.map zH++[(cs.getD i 0,i,[i])].map zH from rfl,this]
   simp
  ·rw [decide_eq_false (by omega),cond_false,if_neg (by simpa using c)]
   exact ZmX cs hn out j (i+1) acc (by omega) (by omega)
theorem ZfI (cs:List Nat):(Zgn cs).length=(Zce cs).length:=by simp [Zgn]
theorem ZhK (cs:List Nat):(Zce cs).length≤cs.length:=by
 have:=List.length_filter_le (fun i=>decide (0<cs.getD i 0)) (List.range cs.length)
 rw [List.length_range] at this
 exact this
theorem ZrT (cs:List Nat) (hn:cs.length≤400) (ht:cs.sum≤400):Zbi (zs cs)=some (zs (ZdM cs)):=by
 have hl:=ZhK cs
 have h0:=ZmX cs (by omega) (zs (List.replicate cs.length 0)) cs.length 0 [] (by omega) (by simp)
 have h2:=ZrR (ZiX cs) ht (by omega) ((Zce cs).length-1) _ _ _ (by rw [ZfI];omega) (by rw [ZfI];omega) (ZkM cs)
 have el:((List.range' 0 cs.length).filter fun i=>decide (0<cs.getD i 0)).map (fun i=>(cs.getD i 0,i,[i]))=Zgn cs:=by
  rw [←List.range_eq_range'];rfl
 rw [el,List.nil_append,show ((0:Nat):Int)=0 from rfl,show ([]:List HT).map zH=[] from rfl] at h0
 unfold Zbi
 rw [Zag,Zal (by omega) (by rw [Int.toNat_natCast];omega),Int.toNat_natCast,ZaA,show List.replicate cs.length (0:Int)=zs (List.replicate cs.length 0) from Zgf _ 0,h0]
 simp only [Zaa]
 rw [List.length_map,ZfI]
 unfold ZdM
 by_cases h1:(Zce cs).length=1
 ·obtain ⟨k,hk⟩:=List.length_eq_one_iff.1 h1
  have hm:k<cs.length∧0<cs.getD k 0:=(ZcJ cs k).1 (by rw [hk];simp)
  have eL:Zgn cs=[(cs.getD k 0,k,[k])]:=by unfold Zgn;rw [hk];rfl
  rw [if_pos h1,h1,eL,hk]
  rw [show (((1:Nat):Int)==1)=true from rfl,cond_true]
  simp only [List.map_cons,List.map_nil,zH,List.length_cons,List.length_nil,List.getD_cons_zero]
  rw [Zab _ (by decide),Zab _ (by rw [Zag,List.length_replicate];exact Zaw hm.1),Int.toNat_natCast,show (1:Int)=((1:Nat):Int) from rfl,ZfR]
  rfl
 ·rw [if_neg h1,show (((Zce cs).length:Int)==1)=false by simp;omega,cond_false]
  simp only [Zaa]
  rw [List.length_map,ZfI,show ((((Zce cs).length:Int)-1).toNat+1)=(Zce cs).length-1+1 by omega,h2]
  rfl
end Ev
end
