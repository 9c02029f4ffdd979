/- Plain laws about what the functions compute. Conditions: as stated. -/
import Derived.KernelRfl
import Derived.Test.YtlikkbbmehpclaaGreatDoorAGP0
set_option linter.unusedVariables false
set_option linter.unusedSimpArgs false
section
namespace Ev
open Go
def Ret {α:Type} (x:Option α) (Q:α→Prop):Prop:=∃a,x=some a∧Q a
theorem Ret.pure {α:Type} {a:α} {Q:α→Prop} (h:Q a):Ret (some a) Q:=⟨a,rfl,h⟩
theorem Ret.of {α:Type} {x:Option α} {a:α} {Q:α→Prop} (e:x=some a) (h:Q a):Ret x Q:=⟨a,e,h⟩
theorem Ret.mono {α:Type} {x:Option α} {P Q:α→Prop} (h:Ret x P) (k:∀a,P a→Q a):Ret x Q:=by
 obtain ⟨a,e,q⟩:=h;exact ⟨a,e,k a q⟩
theorem Ret.bind {α β:Type} {x:Option α} {f:α→Option β} {P:α→Prop} {Q:β→Prop} (h:Ret x P) (k:∀a,P a→Ret (f a) Q):Ret (x.bind f) Q:=by
 obtain ⟨a,rfl,q⟩:=h;exact k a q
theorem Ret.need {α:Type} {b:Bool} {x:Option α} {Q:α→Prop} (h:b=true) (k:Ret x Q):Ret (Ev.need b x) Q:=by subst h;exact k
theorem Ret.cond {α:Type} {b:Bool} {x y:Option α} {Q:α→Prop} (h1:b=true→Ret x Q) (h0:b=false→Ret y Q):Ret (bif b then x else y) Q:=by
 cases b
 ·exact h0 rfl
 ·exact h1 rfl
theorem Ret.ite {α:Type} {p:Prop} [Decidable p] {x y:Option α} {Q:α→Prop} (h1:p→Ret x Q) (h0:¬p→Ret y Q):Ret (if p then x else y) Q:=by
 by_cases h:p
 ·rw [if_pos h];exact h1 h
 ·rw [if_neg h];exact h0 h
theorem Ret.map {α β:Type} {x:Option α} {f:α→β} {Q:β→Prop} (h:Ret x (fun a=>Q (f a))):Ret (x.map f) Q:=by
 obtain ⟨a,rfl,q⟩:=h;exact ⟨f a,rfl,q⟩
theorem Ret.loop {T σ:Type} {step:(T→Option σ)→T→Option σ} (Inv:T→Prop) (μ:T→Nat) (Q:T→σ→Prop)
  (h:∀again t,Inv t→(∀t',Inv t'→μ t'<μ t→Ret (again t') (Q t'))→Ret (step again t) (Q t)):∀n t,Inv t→μ t<n→Ret (loopN step n t) (Q t)
 | 0,_,_,hn=>absurd hn (Nat.not_lt_zero _)
 | n+1,t,hi,hn=>h _ t hi fun t' hi' hm=>Ret.loop Inv μ Q h n t' hi' (by omega)
theorem need_and {α:Type} {p q:Prop} [Decidable p] [Decidable q] {x:Option α} (hp:p) (hq:q):need (decide p&&decide q) x=x:=need_true _ (by simp [hp,hq])
theorem need_dec {α:Type} {p:Prop} [Decidable p] {x:Option α} (hp:p):need (decide p) x=x:=need_true _ (by simp [hp])
theorem need_decf {α:Type} {p:Prop} [Decidable p] {x:Option α} {n:Nat} (hp:p) (hn:n≤1099511627776):need (decide p&&fits n) x=x:=need_true _ (by simp [hp,fits_of hn])
theorem need_fits {α:Type} {n:Nat} {x:Option α} (h:n≤1099511627776):need (fits n) x=x:=need_true _ (fits_of h)
theorem need_ne {α:Type} {a b:Int} {x:Option α} (h:a≠b):need (a != b) x=x:=need_true _ (by simp [h])
theorem need_t {α:Type} {x:Option α}:need true x=x:=rfl
theorem c_dec {α:Type} (p:Prop) [Decidable p] (x y:α):(bif decide p then x else y)=if p then x else y:=by
 by_cases h:p<;>simp [h]
theorem c_eq {α β:Type} [BEq β] [LawfulBEq β] [DecidableEq β] (a b:β) (x y:α):(bif a==b then x else y)=if a=b then x else y:=by
 by_cases h:a=b
 ·simp [h]
 ·rw [if_neg h,beq_false_of_ne h];rfl
theorem c_ne {α β:Type} [BEq β] [LawfulBEq β] [DecidableEq β] (a b:β) (x y:α):(bif a != b then x else y)=if a=b then y else x:=by
 by_cases h:a=b
 ·simp [h]
 ·rw [if_neg h,bne,beq_false_of_ne h];rfl
theorem c_not {α:Type} (b:Bool) (x y:α):(bif !b then x else y)=bif b then y else x:=by cases b<;>rfl
theorem c_nodec {α:Type} (p:Prop) [Decidable p] (x y:α):(bif !decide p then x else y)=if p then y else x:=by
 by_cases h:p<;>simp [h]
theorem tmod_e {a b:Int} (h:0≤a):a.tmod b=a%b:=Int.tmod_eq_emod_of_nonneg h
theorem tdiv_e {a b:Int} (h:0≤a):a.tdiv b=a/b:=Int.tdiv_eq_ediv_of_nonneg h
theorem bind_some' {α β:Type} (a:α) (f:α→Option β):(some a).bind f=f a:=rfl
theorem getD_in {α:Type} {l:List α} {i:Nat} {d:α} (h:i<l.length):l.getD i d=l[i]:=by simp [List.getD,h]
end Ev
end
section
namespace Ev
open Go
theorem wrap_i64_id {n:Int} (h1:-9223372036854775808≤n) (h2:n≤9223372036854775807):IntKind.i64.wrap n=n:=w64_id h1 h2
end Ev
end
section
namespace Ev
open Go
theorem ishr_nat (n k:Nat) (hk:k≤64):ishr .i64 (n:Int) (k:Int)=((n/2^k:Nat):Int):=by
 unfold ishr
 rw [Int.toNat_natCast,show min k IntKind.i64.bits=k from Nat.min_eq_left hk,show ((2:Int)^k)=((2^k:Nat):Int) by simp,Int.fdiv_eq_ediv_of_nonneg _ (Int.natCast_nonneg _)]
 exact (Int.natCast_ediv n (2^k)).symm
theorem ishl_nat (n k:Nat) (hk:k≤64) (h:n*2^k<9223372036854775808):ishl .i64 (n:Int) (k:Int)=((n*2^k:Nat):Int):=by
 unfold ishl
 rw [Int.toNat_natCast,show min k IntKind.i64.bits=k from Nat.min_eq_left hk,show ((2:Int)^k)=((2^k:Nat):Int) by simp,←Int.natCast_mul]
 exact wrap_i64_id (by omega) (by omega)
theorem iand_nat (x y:Nat) (hx:x<9223372036854775808) (hy:y<9223372036854775808):iand .i64 (x:Int) (y:Int)=((x &&& y:Nat):Int):=by
 have hz:x &&& y<2^63:=Nat.and_lt_two_pow _ (by omega)
 unfold iand
 have e:(BitVec.ofInt IntKind.i64.bits (x:Int) &&& BitVec.ofInt IntKind.i64.bits (y:Int)).toNat=x &&& y:=by
  simp only [BitVec.ofInt_natCast,BitVec.toNat_and,BitVec.toNat_ofNat,show IntKind.i64.bits=64 from rfl]
  rw [Nat.mod_eq_of_lt (by omega),Nat.mod_eq_of_lt (by omega)]
 rw [e,wrap_i64_id (by omega) (by omega)]
theorem ior_nat (x y:Nat) (hx:x<9223372036854775808) (hy:y<9223372036854775808):ior .i64 (x:Int) (y:Int)=((x ||| y:Nat):Int):=by
 have hz:x ||| y<2^63:=Nat.or_lt_two_pow (by omega) (by omega)
 unfold ior
 have e:(BitVec.ofInt IntKind.i64.bits (x:Int) ||| BitVec.ofInt IntKind.i64.bits (y:Int)).toNat=x ||| y:=by
  simp only [BitVec.ofInt_natCast,BitVec.toNat_or,BitVec.toNat_ofNat,show IntKind.i64.bits=64 from rfl]
  rw [Nat.mod_eq_of_lt (by omega),Nat.mod_eq_of_lt (by omega)]
 rw [e,wrap_i64_id (by omega) (by omega)]
theorem ior_u8 (x y:Nat) (hx:x<256) (hy:y<256):ior .u8 (x:Int) (y:Int)=((x ||| y:Nat):Int):=by
 have hz:x ||| y<2^8:=Nat.or_lt_two_pow (by omega) (by omega)
 unfold ior
 have e:(BitVec.ofInt IntKind.u8.bits (x:Int) ||| BitVec.ofInt IntKind.u8.bits (y:Int)).toNat=x ||| y:=by
  simp only [BitVec.ofInt_natCast,BitVec.toNat_or,BitVec.toNat_ofNat,show IntKind.u8.bits=8 from rfl]
  rw [Nat.mod_eq_of_lt (by omega),Nat.mod_eq_of_lt (by omega)]
 rw [e,show IntKind.u8.wrap=IntKind.wrap .u8 from rfl]
 have:=wrap_u8' (((x ||| y:Nat)):Int)
 rw [this];omega
where
 wrap_u8' (n:Int):IntKind.wrap .u8 n=n%256:=by simp [IntKind.wrap,IntKind.bits,IntKind.signed]
theorem iand_one (x:Nat) (hx:x<9223372036854775808):iand .i64 (x:Int) 1=((x%2:Nat):Int):=by
 have:=iand_nat x 1 hx (by omega)
 rw [Nat.and_one_is_mod] at this
 exact this
theorem or_add (x c k:Nat) (h:x<2^k):x ||| c*2^k=x+c*2^k:=by
 have:=Nat.two_pow_add_eq_or_of_lt h c
 rw [Nat.or_comm,Nat.mul_comm c,←this,Nat.add_comm]
theorem testBit_nat (n k:Nat):n/2^k%2=(n.testBit k).toNat:=by
 rw [Nat.testBit_eq_decide_div_mod_eq]
 have:n/2^k%2<2:=Nat.mod_lt _ (by omega)
 by_cases h:n/2^k%2=1
 ·simp [h]
 ·have:n/2^k%2=0:=by omega
  simp [this]
def numB (n:Nat):Nat→List Bool
 | 0=>[]
 | k+1=>numB n k++[n.testBit k]
def valB:List Bool→Nat
 | []=>0
 | b::l=>b.toNat+2*valB l
theorem numB_length (n:Nat):∀k,(numB n k).length=k
 | 0=>rfl
 | k+1=>by simp [numB,numB_length n k]
theorem valB_append (a b:List Bool):valB (a++b)=valB a+2^a.length*valB b:=by
 induction a with
 | nil=>simp [valB]
 | cons x l ih=>
  simp only [List.cons_append,valB,ih,List.length_cons,Nat.pow_succ]
  rw [Nat.mul_add,Nat.add_assoc];congr 2
  rw [←Nat.mul_assoc,Nat.mul_comm 2]
theorem valB_lt (l:List Bool):valB l<2^l.length:=by
 induction l with
 | nil=>simp [valB]
 | cons x l ih=>
  simp only [valB,List.length_cons,Nat.pow_succ]
  have:x.toNat≤1:=by cases x<;>decide
  omega
def pack (l:List Bool):List Int:=(List.range ((l.length+7)/8)).map fun i=>((valB ((l.drop (8*i)).take 8):Nat):Int)
theorem pack_length (l:List Bool):(pack l).length=(l.length+7)/8:=by simp [pack]
theorem pack_get (l:List Bool) (i:Nat) (h:i<(l.length+7)/8):(pack l).getD i 0=((valB ((l.drop (8*i)).take 8):Nat):Int):=by
 simp [pack,List.getD,h]
theorem pack_snoc0 (l:List Bool) (c:Bool) (h:l.length%8=0):pack (l++[c])=pack l++[((c.toNat:Nat):Int)]:=by
 apply List.ext_getElem
 ·simp [pack_length];omega
 ·intro i h1 h2
  rw [pack_length,List.length_append,List.length_singleton] at h1
  simp only [pack,List.getElem_map,List.getElem_range]
  by_cases hi:i<(l.length+7)/8
  ·rw [List.getElem_append_left (by simpa using hi)]
   simp only [List.getElem_map,List.getElem_range]
   rw [List.drop_append_of_le_length (by omega),List.take_append_of_le_length (by simp;omega)]
  ·rw [List.getElem_append_right (by simp;omega)]
   have:8*i=l.length:=by omega
   rw [this,List.drop_left]
   simp [valB]
theorem pack_snoc1 (l:List Bool) (c:Bool) (h:l.length%8≠0) :
  pack (l++[c])=(pack l).set (l.length/8) ((pack l).getD (l.length/8) 0+(c.toNat*2^(l.length%8):Nat)):=by
 apply List.ext_getElem
 ·simp [pack_length];omega
 ·intro i h1 h2
  rw [pack_length,List.length_append,List.length_singleton] at h1
  have hi:i<(l.length+7)/8:=by omega
  rw [List.getElem_set]
  simp only [pack,List.getElem_map,List.getElem_range]
  split
  ·rename_i e
   have:=pack_get l (l.length/8) (by omega)
   unfold pack at this
   rw [this,←e]
   have hl:(l.drop (8*(l.length/8))).length=l.length%8:=by rw [List.length_drop];omega
   rw [List.drop_append_of_le_length (by omega),List.take_of_length_le (by simp;omega),List.take_of_length_le (by omega),valB_append,hl]
   simp only [valB,Nat.mul_zero,Nat.add_zero]
   rw [Nat.mul_comm (2^_)]
   omega
  ·rename_i e
   rw [List.drop_append_of_le_length (by omega),List.take_append_of_le_length (by simp;omega)]
theorem pack_low (l:List Bool) (h:l.length%8≠0):∃x:Nat,(pack l).getD (l.length/8) 0=(x:Int)∧x<2^(l.length%8):=by
 refine ⟨_,pack_get l _ (by omega),?_⟩
 have:=valB_lt ((l.drop (8*(l.length/8))).take 8)
 have hl:((l.drop (8*(l.length/8))).take 8).length=l.length%8:=by simp;omega
 rwa [hl] at this
theorem wPut_l0 (n k:Nat) (hn:n<9223372036854775808) (hk:k≤62):∀(m i:Nat) (l:List Bool),i+m=k→l.length+m≤100000000→
  wPut.l0 (m+1) ((n:Int),(k:Int),(i:Int),(l.length:Int),pack l)=some ((((l++((numB n k).drop i)).length:Nat):Int),pack (l++((numB n k).drop i)))
 | 0,i,l,hi,hl=>by
  rw [wPut.l0.succ]
  simp only [wPut.l0.step]
  rw [idx_ge (by omega),List.drop_eq_nil_of_le (by rw [numB_length];omega)]
  simp
 | m+1,i,l,hi,hl=>by
  have ik:i<k:=by omega
  have hd:(numB n k).drop i=n.testBit i::(numB n k).drop (i+1):=by
   have e:(numB n k)[i]'(by rw [numB_length];exact ik)=n.testBit i:=by
    clear hi hl hk
    induction k with
    | zero=>omega
    | succ k ih=>
     simp only [numB]
     by_cases h:i<k
     ·rw [List.getElem_append_left (by rw [numB_length];exact h)];exact ih h
     ·have:i=k:=by omega
      subst this
      rw [List.getElem_append_right (by rw [numB_length];omega)]
      simp
   rw [List.drop_eq_getElem_cons (by rw [numB_length];exact ik),e]
  have ih:=wPut_l0 n k hn hk m (i+1) (l++[n.testBit i]) (by omega) (by simp;omega)
  rw [wPut.l0.succ]
  simp only [wPut.l0.step]
  rw [idx_lt ik,cond_true]
  have hmod:((l.length:Int)).tmod 8=((l.length%8:Nat):Int):=by rw [tmod_e (by omega)];omega
  have hdiv:((l.length:Int)).tdiv 8=((l.length/8:Nat):Int):=by rw [tdiv_e (by omega)];omega
  have hbit:iand .i64 (ishr .i64 (n:Int) (i:Int)) 1=(((n.testBit i).toNat:Nat):Int):=by
   rw [ishr_nat n i (by omega),iand_one _ (Nat.lt_of_le_of_lt (Nat.div_le_self _ _) hn),testBit_nat]
  have hc:(n.testBit i).toNat≤1:=by cases n.testBit i<;>decide
  have hp:2^(l.length%8)≤2^7:=Nat.pow_le_pow_right (by omega) (by omega)
  have hle:(n.testBit i).toNat*2^(l.length%8)≤128:=by
   calc _≤1*2^7:=Nat.mul_le_mul hc hp
    _=128:=by decide
  have hshl:ishl .i64 (((n.testBit i).toNat:Nat):Int) ((l.length%8:Nat):Int)=(((n.testBit i).toNat*2^(l.length%8):Nat):Int):=ishl_nat _ _ (by omega) (by omega)
  have hwr:IntKind.wrap .u8 (((n.testBit i).toNat*2^(l.length%8):Nat):Int)=(((n.testBit i).toNat*2^(l.length%8):Nat):Int):=by
   rw [show IntKind.wrap .u8 (((n.testBit i).toNat*2^(l.length%8):Nat):Int)=(((n.testBit i).toNat*2^(l.length%8):Nat):Int)%256 by simp [IntKind.wrap,IntKind.bits,IntKind.signed]]
   omega
  simp only [hmod]
  by_cases h0:l.length%8=0
  ·have e0:(((l.length%8:Nat):Int)==0)=true:=by simp [h0]
   simp only [e0,cond_true]
   rw [need_true _ (fits_of (by simp [pack_length];omega))]
   simp only [bind_some',hmod,hdiv,hbit,hshl,hwr]
   have hlt:l.length/8<(pack l++[0]).length:=by rw [List.length_append,pack_length];simp;omega
   have hat:l.length/8=(pack l).length:=by rw [pack_length];omega
   ((try simp (disch:=omega) only [need_and,need_dec,need_decf,need_fits,need_ne,need_t,w64_id,tmod_e,tdiv_e,bind_some',Option.map_some,cond_true,cond_false,Int.sub_zero,Int.toNat_natCast]);(try simp only [c_dec,c_eq,c_ne,c_nodec,c_not,if_true,if_false]))
   rw [hat,List.getD_eq_getElem?_getD,List.getElem?_concat_length,Option.getD_some,←hat]
   have hz:ior .u8 0 (((n.testBit i).toNat*2^(l.length%8):Nat):Int)=(((n.testBit i).toNat:Nat):Int):=by
    have:=ior_u8 0 ((n.testBit i).toNat*2^(l.length%8)) (by omega) (by omega)
    rw [show ((0:Nat):Int)=0 from rfl] at this
    rw [this,Nat.zero_or,h0];simp
   rw [hz,hat,List.set_append_right _ _ (Nat.le_refl _),Nat.sub_self,List.set_cons_zero,←pack_snoc0 l _ h0]
   rw [show ((i:Int)+1)=((i+1:Nat):Int) by omega,show ((l.length:Int)+1)=(((l++[n.testBit i]).length:Nat):Int) by simp]
   rw [ih,hd,List.append_assoc];rfl
  ·have e0:(((l.length%8:Nat):Int)==0)=false:=by simp;omega
   simp only [e0,cond_false,bind_some',hmod,hdiv,hbit,hshl,hwr]
   have hlt:l.length/8<(pack l).length:=by rw [pack_length];omega
   obtain ⟨x,hx,hxl⟩:=pack_low l h0
   have hx8:x<128:=Nat.lt_of_lt_of_le hxl hp
   ((try simp (disch:=omega) only [need_and,need_dec,need_decf,need_fits,need_ne,need_t,w64_id,tmod_e,tdiv_e,bind_some',Option.map_some,cond_true,cond_false,Int.sub_zero,Int.toNat_natCast]);(try simp only [c_dec,c_eq,c_ne,c_nodec,c_not,if_true,if_false]))
   rw [hx]
   rw [ior_u8 x _ (by omega) (by omega),or_add x _ _ hxl]
   have:=pack_snoc1 l (n.testBit i) h0
   rw [hx] at this
   rw [show (((x+(n.testBit i).toNat*2^(l.length%8):Nat)):Int)=(x:Int)+(((n.testBit i).toNat*2^(l.length%8):Nat):Int) by omega,←this]
   rw [show ((i:Int)+1)=((i+1:Nat):Int) by omega,show ((l.length:Int)+1)=(((l++[n.testBit i]).length:Nat):Int) by simp]
   rw [ih,hd,List.append_assoc];rfl
theorem wPut_eq (n k:Nat) (hn:n<9223372036854775808) (hk:k≤62) (l:List Bool) (hl:l.length≤90000000) :
  wPut (n:Int) (k:Int) (l.length:Int) (pack l)=some ((((l++numB n k).length:Nat):Int),pack (l++numB n k)):=by
 unfold wPut
 have:=wPut_l0 n k hn hk k 0 l (by omega) (by omega)
 rw [fuel_of,show (0:Int)=((0:Nat):Int) from rfl,this]
 simp
end Ev
end
section
namespace Ev
open Go
theorem numB_get (n:Nat):∀(k i:Nat) (h:i<k),(numB n k)[i]'(by rw [numB_length];exact h)=n.testBit i
 | 0,i,h=>by omega
 | k+1,i,h=>by
  simp only [numB]
  by_cases hi:i<k
  ·rw [List.getElem_append_left (by rw [numB_length];exact hi)];exact numB_get n k i hi
  ·have:i=k:=by omega
   subst this
   rw [List.getElem_append_right (by rw [numB_length];omega)]
   simp
theorem l1Pow_l0:∀(m:Nat) (o:Nat),m≤62→o*2^m<9223372036854775808→l1Pow.l0 (m+1) ((m:Int),(o:Int))=some ((o*2^m:Nat):Int)
 | 0,o,hm,h=>by
  rw [l1Pow.l0.succ];simp only [l1Pow.l0.step]
  ((try simp (disch:=omega) only [need_and,need_dec,need_decf,need_fits,need_ne,need_t,w64_id,tmod_e,tdiv_e,bind_some',Option.map_some,cond_true,cond_false,Int.sub_zero,Int.toNat_natCast]);(try simp only [c_dec,c_eq,c_ne,c_nodec,c_not,if_true,if_false]))
  rw [if_neg (by omega)];simp
 | m+1,o,hm,h=>by
  have h2:o*2^(m+1)=2*o*2^m:=by rw [Nat.pow_succ,Nat.mul_comm (2^m) 2,←Nat.mul_assoc,Nat.mul_comm o 2]
  have hle:2*o≤2*o*2^m:=Nat.le_mul_of_pos_right _ (Nat.two_pow_pos m)
  rw [l1Pow.l0.succ];simp only [l1Pow.l0.step]
  ((try simp (disch:=omega) only [need_and,need_dec,need_decf,need_fits,need_ne,need_t,w64_id,tmod_e,tdiv_e,bind_some',Option.map_some,cond_true,cond_false,Int.sub_zero,Int.toNat_natCast]);(try simp only [c_dec,c_eq,c_ne,c_nodec,c_not,if_true,if_false]))
  rw [if_pos (by omega),show (((m+1:Nat):Int)-1)=(m:Int) by omega,show (2*(o:Int))=((2*o:Nat):Int) by omega,l1Pow_l0 m (2*o) (by omega) (by omega),h2]
theorem l1Pow_eq (n:Nat) (hn:n≤62):l1Pow (n:Int)=some ((2^n:Nat):Int):=by
 unfold l1Pow
 have hp:2^n≤2^62:=Nat.pow_le_pow_right (by omega) hn
 have:=l1Pow_l0 n 1 hn (by omega)
 rw [show ((n:Int)-0).toNat+1=n+1 by omega,show (1:Int)=((1:Nat):Int) from rfl,this,Nat.one_mul]
 rfl
def oT (l:List Bool):List Int:=(List.range (l.length/8)).map fun i=>((valB ((l.drop (8*i)).take 8):Nat):Int)
def oL (l:List Bool):Nat:=valB (l.drop (8*(l.length/8)))
theorem oL_lt (l:List Bool):oL l<2^(l.length%8):=by
 have:=valB_lt (l.drop (8*(l.length/8)))
 have hl:(l.drop (8*(l.length/8))).length=l.length%8:=by rw [List.length_drop];omega
 rwa [hl] at this
theorem oT_length (l:List Bool):(oT l).length=l.length/8:=by simp [oT]
theorem oL_snoc (l:List Bool) (c:Bool) (h:l.length%8≠7):oL (l++[c])=oL l+c.toNat*2^(l.length%8):=by
 unfold oL
 have e:(l++[c]).length/8=l.length/8:=by simp;omega
 have hl:(l.drop (8*(l.length/8))).length=l.length%8:=by rw [List.length_drop];omega
 rw [e,List.drop_append_of_le_length (by omega),valB_append,hl]
 simp only [valB,Nat.mul_zero,Nat.add_zero]
 rw [Nat.mul_comm (2^_)]
theorem oT_snoc (l:List Bool) (c:Bool) (h:l.length%8≠7):oT (l++[c])=oT l:=by
 unfold oT
 have e:(l++[c]).length/8=l.length/8:=by simp;omega
 rw [e]
 apply List.map_congr_left
 intro i hi
 have:=List.mem_range.1 hi
 rw [List.drop_append_of_le_length (by omega),List.take_append_of_le_length (by simp;omega)]
theorem oT_full (l:List Bool) (c:Bool) (h:l.length%8=7):oT (l++[c])=oT l++[((oL l+c.toNat*2^(l.length%8):Nat):Int)]∧oL (l++[c])=0:=by
 have e:(l++[c]).length/8=l.length/8+1:=by simp;omega
 have hl:(l.drop (8*(l.length/8))).length=l.length%8:=by rw [List.length_drop];omega
 constructor
 ·unfold oT oL
  rw [e,List.range_succ,List.map_append,List.map_singleton]
  congr 1
  ·apply List.map_congr_left
   intro i hi
   have:=List.mem_range.1 hi
   rw [List.drop_append_of_le_length (by omega),List.take_append_of_le_length (by simp;omega)]
  ·rw [List.drop_append_of_le_length (by omega),List.take_of_length_le (by simp;omega),valB_append,hl]
   simp only [valB,Nat.mul_zero,Nat.add_zero]
   rw [Nat.mul_comm (2^_)]
 ·unfold oL
  rw [e,List.drop_eq_nil_of_le (by simp;omega)];rfl
theorem oPut_l0 (n k:Nat) (hn:n<4611686018427387904) (hk:k≤1000):∀(m i:Nat) (l:List Bool),i+m=k→l.length+m≤100000000→
  oPut.l0 (m+1) (((n/2^i:Nat):Int),(k:Int),(i:Int),(oL l:Int),((l.length%8:Nat):Int),oT l) =
   some ((oL (l++(numB n k).drop i):Int),(((l++(numB n k).drop i).length%8:Nat):Int),oT (l++(numB n k).drop i))
 | 0,i,l,hi,hl=>by
  rw [oPut.l0.succ];simp only [oPut.l0.step]
  rw [idx_ge (by omega),List.drop_eq_nil_of_le (by rw [numB_length];omega)]
  simp
 | m+1,i,l,hi,hl=>by
  have ik:i<k:=by omega
  have hd:(numB n k).drop i=n.testBit i::(numB n k).drop (i+1):=by
   rw [List.drop_eq_getElem_cons (by rw [numB_length];exact ik),numB_get n k i ik]
  have ih:=oPut_l0 n k hn hk m (i+1) (l++[n.testBit i]) (by omega) (by simp;omega)
  have hL:=oL_lt l
  have hp:2^(l.length%8)≤2^7:=Nat.pow_le_pow_right (by omega) (by omega)
  have hc:(n.testBit i).toNat≤1:=by cases n.testBit i<;>decide
  have hle:(n.testBit i).toNat*2^(l.length%8)≤1*2^(l.length%8):=Nat.mul_le_mul_right _ hc
  have hdn:n/2^i≤n:=Nat.div_le_self _ _
  have hbit:(((n/2^i:Nat):Int)).tmod 2=(((n.testBit i).toNat:Nat):Int):=by
   rw [tmod_e (Int.natCast_nonneg _),←testBit_nat];exact (Int.natCast_emod _ 2).symm
  have hhalf:(((n/2^i:Nat):Int)).tdiv 2=((n/2^(i+1):Nat):Int):=by
   rw [tdiv_e (Int.natCast_nonneg _),Nat.pow_succ,←Nat.div_div_eq_div_mul];exact (Int.natCast_ediv _ 2).symm
  rw [oPut.l0.succ];simp only [oPut.l0.step]
  rw [idx_lt ik,cond_true,l1Pow_eq _ (by omega)]
  simp only [bind_some',hbit,hhalf]
  rw [show (((n.testBit i).toNat:Nat):Int)*((2^(l.length%8):Nat):Int)=(((n.testBit i).toNat*2^(l.length%8):Nat):Int) by rw [Int.natCast_mul]]
  have hdn2:n/2^(i+1)≤n:=Nat.div_le_self _ _
  have hw:w64 ((n/2^(i+1):Nat):Int)=((n/2^(i+1):Nat):Int):=by
   generalize n/2^(i+1)=q at hdn2 ⊢
   exact w64_id (by omega) (by omega)
  simp only [hw]
  by_cases h7:l.length%8=7
  ·obtain ⟨f1,f2⟩:=oT_full l (n.testBit i) h7
   have e8:((((l.length%8:Nat):Int)+1)==8)=true:=by simp;omega
   ((try simp (disch:=omega) only [need_and,need_dec,need_decf,need_fits,need_ne,need_t,w64_id,tmod_e,tdiv_e,bind_some',Option.map_some,cond_true,cond_false,Int.sub_zero,Int.toNat_natCast,e8]);(try simp only [c_dec,c_eq,c_ne,c_nodec,c_not,if_true,if_false,e8]))
   rw [need_true _ (fits_of (by simp [oT_length];omega))]
   have hwr:IntKind.wrap .u8 ((oL l:Int)+(((n.testBit i).toNat*2^(l.length%8):Nat):Int))=(((oL l+(n.testBit i).toNat*2^(l.length%8):Nat)):Int):=by
    rw [show IntKind.wrap .u8 ((oL l:Int)+(((n.testBit i).toNat*2^(l.length%8):Nat):Int))=((oL l:Int)+(((n.testBit i).toNat*2^(l.length%8):Nat):Int))%256 by simp [IntKind.wrap,IntKind.bits,IntKind.signed]]
    omega
   rw [hwr,←f1]
   have hm:(l++[n.testBit i]).length%8=0:=by simp;omega
   rw [f2,hm] at ih
   rw [show ((i:Int)+1)=((i+1:Nat):Int) by omega]
   rw [show (0:Int)=((0:Nat):Int) from rfl,ih,hd,List.append_assoc];rfl
  ·have e8:((((l.length%8:Nat):Int)+1)==8)=false:=by simp;omega
   ((try simp (disch:=omega) only [need_and,need_dec,need_decf,need_fits,need_ne,need_t,w64_id,tmod_e,tdiv_e,bind_some',Option.map_some,cond_true,cond_false,Int.sub_zero,Int.toNat_natCast,e8]);(try simp only [c_dec,c_eq,c_ne,c_nodec,c_not,if_true,if_false,e8]))
   have hm:(l++[n.testBit i]).length%8=l.length%8+1:=by simp;omega
   rw [oL_snoc l _ h7,oT_snoc l _ h7,hm] at ih
   rw [show ((i:Int)+1)=((i+1:Nat):Int) by omega,show (((l.length%8:Nat):Int)+1)=((l.length%8+1:Nat):Int) by omega,
    show (oL l:Int)+(((n.testBit i).toNat*2^(l.length%8):Nat):Int)=(((oL l+(n.testBit i).toNat*2^(l.length%8):Nat)):Int) by omega]
   rw [ih,hd,List.append_assoc];rfl
theorem oPut_eq (n k:Nat) (hn:n<4611686018427387904) (hk:k≤1000) (l:List Bool) (hl:l.length+k≤90000000) :
  oPut (n:Int) (k:Int) (oL l:Int) ((l.length%8:Nat):Int) (oT l)=some ((oL (l++numB n k):Int),(((l++numB n k).length%8:Nat):Int),oT (l++numB n k)):=by
 unfold oPut
 have:=oPut_l0 n k hn hk k 0 l (by omega) (by omega)
 rw [fuel_of]
 simp only [Nat.pow_zero,Nat.div_one,List.drop_zero] at this
 rw [show (0:Int)=((0:Nat):Int) from rfl,this]
 rfl
theorem numB_zero:∀k,numB 0 k=List.replicate k false
 | 0=>rfl
 | k+1=>by rw [numB,numB_zero k,List.replicate_succ'];simp
def fillB (l:List Bool):List Bool:=l++List.replicate ((8-l.length%8)%8) false
theorem fillB_length (l:List Bool):(fillB l).length=8*((l.length+7)/8):=by simp [fillB];omega
theorem pack_fill (l:List Bool):pack l=oT (fillB l)∧pack (fillB l)=pack l:=by
 have key:∀i,valB (((fillB l).drop (8*i)).take 8)=valB ((l.drop (8*i)).take 8):=fun i=>by
  have z:∀k,valB (List.replicate k false)=0:=fun k=>by induction k with
   | zero=>rfl
   | succ k ih=>rw [List.replicate_succ];simp [valB,ih]
  have vt:∀(a b:List Bool) k,valB b=0→(∀j,valB (b.take j)=0)→valB ((a++b).take k)=valB (a.take k):=fun a b k h1 h2=>by
   rw [List.take_append,valB_append,h2];simp
  unfold fillB
  by_cases h:8*i≤l.length
  ·rw [List.drop_append_of_le_length h]
   exact vt _ _ _ (z _) (fun j=>by rw [List.take_replicate];exact z _)
  ·rw [List.drop_eq_nil_of_le (by omega:l.length≤8*i),List.drop_append,List.drop_eq_nil_of_le (by omega:l.length≤8*i),List.nil_append,List.drop_replicate,List.take_replicate,z];rfl
 constructor
 ·unfold pack oT
  rw [fillB_length,show 8*((l.length+7)/8)/8=(l.length+7)/8 by omega]
  exact List.map_congr_left fun i _=>by rw [key]
 ·unfold pack
  rw [fillB_length,show (8*((l.length+7)/8)+7)/8=(l.length+7)/8 by omega]
  exact List.map_congr_left fun i _=>by rw [key]
theorem oWhole_eq (l:List Bool) (hl:l.length≤80000000):oWhole (oL l:Int) ((l.length%8:Nat):Int) (oT l)=some ((oL (fillB l):Int),0,pack l):=by
 unfold oWhole
 ((try simp (disch:=omega) only [need_and,need_dec,need_decf,need_fits,need_ne,need_t,w64_id,tmod_e,tdiv_e,bind_some',Option.map_some,cond_true,cond_false,Int.sub_zero,Int.toNat_natCast]);(try simp only [c_dec,c_eq,c_ne,c_nodec,c_not,if_true,if_false]))
 by_cases h:l.length%8=0
 ·rw [if_neg (by omega)]
  have e:fillB l=l:=by unfold fillB;rw [h];simp
  rw [(pack_fill l).1,e,h];rfl
 ·rw [if_pos (by omega),show (8-((l.length%8:Nat):Int))=((8-l.length%8:Nat):Int) by omega,show (0:Int)=((0:Nat):Int) from rfl,oPut_eq 0 _ (by omega) (by omega) l (by omega)]
  simp only [bind_some',numB_zero]
  have e:l++List.replicate (8-l.length%8) false=fillB l:=by unfold fillB;rw [Nat.mod_eq_of_lt (by omega:8-l.length%8<8)]
  rw [e,(pack_fill l).1,fillB_length]
  simp
def turn (n k:Nat):Nat:=valB (numB n k).reverse
theorem turn_succ (n k:Nat):turn n (k+1)=2*turn n k+n/2^k%2:=by
 unfold turn
 rw [numB,List.reverse_append]
 simp only [List.reverse_cons,List.reverse_nil,List.nil_append,List.singleton_append,valB]
 rw [testBit_nat];omega
theorem turn_lt (n k:Nat):turn n k<2^k:=by
 have:=valB_lt (numB n k).reverse
 rwa [List.length_reverse,numB_length] at this
theorem bitsTurn_l0 (n k:Nat) (hn:n<9223372036854775808) (hk:k≤60):∀(m i:Nat),i+m=k→bitsTurn.l0 (m+1) ((n:Int),(turn n i:Int),(k:Int),(i:Int))=some (turn n k:Int)
 | 0,i,hi=>by
  rw [bitsTurn.l0.succ];simp only [bitsTurn.l0.step]
  rw [idx_ge (by omega)]
  have:i=k:=by omega
  subst this;rfl
 | m+1,i,hi=>by
  have ht:=turn_lt n i
  have hp:2^i≤2^60:=Nat.pow_le_pow_right (by omega) (by omega)
  have hm:n/2^i%2<2:=Nat.mod_lt _ (by omega)
  rw [bitsTurn.l0.succ];simp only [bitsTurn.l0.step]
  rw [idx_lt (by omega),cond_true,ishr_nat n i (by omega),iand_one _ (Nat.lt_of_le_of_lt (Nat.div_le_self _ _) hn)]
  ((try simp (disch:=omega) only [need_and,need_dec,need_decf,need_fits,need_ne,need_t,w64_id,tmod_e,tdiv_e,bind_some',Option.map_some,cond_true,cond_false,Int.sub_zero,Int.toNat_natCast]);(try simp only [c_dec,c_eq,c_ne,c_nodec,c_not,if_true,if_false]))
  rw [show 2*(turn n i:Int)+((n/2^i%2:Nat):Int)=(turn n (i+1):Int) by rw [turn_succ];omega,show ((i:Int)+1)=((i+1:Nat):Int) by omega]
  exact bitsTurn_l0 n k hn hk m (i+1) (by omega)
theorem within_eq' (n a b:Int):within n a b=some (decide (a≤n∧n≤b)):=by
 unfold within
 by_cases h1:n≥a<;>by_cases h2:n≤b<;>simp [h1,h2]<;>omega
theorem l1In_eq' (n a b:Int):l1In n a b=some (decide (a≤n∧n≤b)):=within_eq' n a b
theorem pieceOk_ok (n k:Nat) (hk:k≤16) (hn:n<2^k):pieceOk (n:Int) (k:Int)=some true:=by
 unfold pieceOk
 have hp:2^k≤2^16:=Nat.pow_le_pow_right (by omega) hk
 rw [within_eq']
 simp only [bind_some']
 have h1:decide ((0:Int)≤(k:Int)∧(k:Int)≤16)=true:=by simp;omega
 have:=ishl_nat 1 k (by omega) (by omega)
 rw [show ((1:Nat):Int)=1 from rfl] at this
 rw [h1,cond_true,this]
 ((try simp (disch:=omega) only [need_and,need_dec,need_decf,need_fits,need_ne,need_t,w64_id,tmod_e,tdiv_e,bind_some',Option.map_some,cond_true,cond_false,Int.sub_zero,Int.toNat_natCast]);(try simp only [c_dec,c_eq,c_ne,c_nodec,c_not,if_true,if_false]))
 rw [within_eq']
 have h2:decide ((0:Int)≤(n:Int)∧(n:Int)≤((1*2^k:Nat):Int)-1)=true:=by
  rw [decide_eq_true_eq];omega
 rw [h2];rfl
theorem bitsTurn_eq (n k:Nat) (hk:k≤16) (hn:n<2^k):bitsTurn (n:Int) (k:Int)=some (turn n k:Int):=by
 have hp:2^k≤2^16:=Nat.pow_le_pow_right (by omega) hk
 unfold bitsTurn
 rw [pieceOk_ok n k hk hn]
 simp only [bind_some',Bool.not_true,cond_false]
 have:=bitsTurn_l0 n k (by omega) (by omega) k 0 (by omega)
 rw [fuel_of]
 rw [show (turn n 0:Int)=0 from rfl,show ((0:Nat):Int)=0 from rfl] at this
 rw [this];rfl
theorem l1Turn_l0 (n k:Nat) (hn:n<4611686018427387904) (hk:k≤60):∀(m i:Nat),i+m=k→l1Turn.l0 (m+1) (((n/2^i:Nat):Int),(k:Int),(turn n i:Int),(i:Int))=some (turn n k:Int)
 | 0,i,hi=>by
  rw [l1Turn.l0.succ];simp only [l1Turn.l0.step]
  rw [idx_ge (by omega)]
  have:i=k:=by omega
  subst this;rfl
 | m+1,i,hi=>by
  have ht:=turn_lt n i
  have hp:2^i≤2^60:=Nat.pow_le_pow_right (by omega) (by omega)
  have hm:n/2^i%2<2:=Nat.mod_lt _ (by omega)
  have hdn:n/2^i≤n:=Nat.div_le_self _ _
  have hts:turn n (i+1)=2*turn n i+n/2^i%2:=turn_succ n i
  have hq:n/2^(i+1)=n/2^i/2:=by rw [Nat.pow_succ,←Nat.div_div_eq_div_mul]
  have ih:=l1Turn_l0 n k hn hk m (i+1) (by omega)
  rw [hq] at ih
  rw [l1Turn.l0.succ];simp only [l1Turn.l0.step]
  rw [idx_lt (by omega),cond_true]
  generalize n/2^i=q at *
  ((try simp (disch:=omega) only [need_and,need_dec,need_decf,need_fits,need_ne,need_t,w64_id,tmod_e,tdiv_e,bind_some',Option.map_some,cond_true,cond_false,Int.sub_zero,Int.toNat_natCast]);(try simp only [c_dec,c_eq,c_ne,c_nodec,c_not,if_true,if_false]))
  rw [show 2*(turn n i:Int)+(q:Int)%2=(turn n (i+1):Int) by omega,show ((i:Int)+1)=((i+1:Nat):Int) by omega,
   show (q:Int)/2=((q/2:Nat):Int) by omega]
  exact ih
theorem l1Turn_eq (n k:Nat) (hn:n<4611686018427387904) (hk:k≤60):l1Turn (n:Int) (k:Int)=some (turn n k:Int):=by
 unfold l1Turn
 have:=l1Turn_l0 n k hn hk k 0 (by omega)
 rw [fuel_of]
 simp only [Nat.pow_zero,Nat.div_one] at this
 rw [show (turn n 0:Int)=0 from rfl,show ((0:Nat):Int)=0 from rfl] at this
 rw [this];rfl
def msb (c k:Nat):List Bool:=(numB c k).reverse
theorem numB_valB:∀(l:List Bool),numB (valB l) l.length=l:=by
 intro l
 apply List.ext_getElem
 ·rw [numB_length]
 ·intro i h1 h2
  rw [numB_get _ _ _ h2]
  induction l generalizing i with
  | nil=>simp at h2
  | cons b l ih=>
   cases i with
   | zero=>
    simp only [valB,List.getElem_cons_zero]
    rw [Nat.testBit_zero]
    cases b<;>simp<;>omega
   | succ i=>
    simp only [valB,List.getElem_cons_succ]
    rw [Nat.testBit_succ,show (b.toNat+2*valB l)/2=valB l by cases b<;>simp<;>omega]
    exact ih i (by rw [numB_length];simpa using h2) (by simpa using h2)
theorem numB_turn (n k:Nat):numB (turn n k) k=msb n k:=by
 have:=numB_valB (numB n k).reverse
 rw [List.length_reverse,numB_length] at this
 exact this
end Ev
end
section
namespace Ev
open Go
def bitsOf:Str→List Bool
 | []=>[]
 | c::s=>numB c.toNat 8++bitsOf s
theorem bitsOf_length:∀s:Str,(bitsOf s).length=8*s.length
 | []=>rfl
 | c::s=>by simp [bitsOf,numB_length,bitsOf_length s];omega
theorem bitsOf_get:∀(s:Str) (n:Nat) (h:n<8*s.length),(bitsOf s)[n]'(by rw [bitsOf_length];exact h)=((s.getD (n/8) 0).toNat).testBit (n%8)
 | [],n,h=>by simp at h
 | c::s,n,h=>by
  simp only [bitsOf]
  by_cases h8:n<8
  ·rw [List.getElem_append_left (by rw [numB_length];exact h8),numB_get _ _ _ h8,show n/8=0 by omega,show n%8=n by omega];rfl
  ·rw [List.getElem_append_right (by rw [numB_length];omega)]
   simp only [numB_length]
   have:=bitsOf_get s (n-8) (by simp at h;omega)
   rw [this,show n/8=(n-8)/8+1 by omega,show (n-8)%8=n%8 by omega];rfl
def Rs (s:Str) (at_:Int) (bad:Bool):Option (List Bool)→Prop
 | some l=>bad=false∧∃n:Nat,at_=(n:Int)∧n≤8*s.length∧(bitsOf s).drop n=l
 | none=>bad=true∧∃n:Nat,at_=(n:Int)∧n≤8*s.length
theorem Rs.at {s:Str} {at_:Int} {bad:Bool} {m:Option (List Bool)} (h:Rs s at_ bad m):∃n:Nat,at_=(n:Int)∧n≤8*s.length:=by
 cases m with
 | none=>exact h.2
 | some l=>obtain ⟨_,n,a,b,_⟩:=h;exact ⟨n,a,b⟩
theorem Rs.fail {s:Str} {at_:Int} {bad:Bool} {m:Option (List Bool)} (h:Rs s at_ bad m):Rs s at_ true none:=⟨rfl,h.at⟩
theorem Rs.len {s:Str} {at_:Int} {bad:Bool} {l:List Bool} (h:Rs s at_ bad (some l)):at_=((8*s.length-l.length:Nat):Int)∧l.length≤8*s.length:=by
 obtain ⟨_,n,a,b,c⟩:=h
 have:=congrArg List.length c
 rw [List.length_drop,bitsOf_length] at this
 omega
theorem Rs.start (s:Str):Rs s 0 false (some (bitsOf s)):=⟨rfl,0,rfl,by omega,rfl⟩
def uncons:Option (List Bool)→Option (List Bool)
 | some (_::l)=>some l
 | _=>none
def BitPost (s:Str) (m:Option (List Bool)) (r:Int×Str×Int×Bool):Prop:=
 r.2.1=s∧∃b:Bool,r.1=((b.toNat:Nat):Int)∧Rs s r.2.2.1 r.2.2.2 (uncons m)∧∀c l,m=some (c::l)→b=c
theorem rBit_lt (s:Str) (n:Nat) (bad:Bool) (hs:s.length≤1000000000) (hlt:n<8*s.length) :
  rBit s (n:Int) bad=some (((((s.getD (n/8) 0).toNat.testBit (n%8)).toNat:Nat):Int),s,((n+1:Nat):Int),bad):=by
 unfold rBit
 have hmod:((n:Int)).tmod 8=((n%8:Nat):Int):=by rw [tmod_e (by omega)];omega
 have hdiv:((n:Int)).tdiv 8=((n/8:Nat):Int):=by rw [tdiv_e (by omega)];omega
 simp only [hmod,hdiv]
 ((try simp (disch:=omega) only [need_and,need_dec,need_decf,need_fits,need_ne,need_t,w64_id,tmod_e,tdiv_e,bind_some',Option.map_some,cond_true,cond_false,Int.sub_zero,Int.toNat_natCast]);(try simp only [c_dec,c_eq,c_ne,c_nodec,c_not,if_true,if_false]))
 rw [if_neg (by omega)]
 have hc:(s.getD (n/8) 0).toNat<256:=(s.getD (n/8) 0).toNat_lt
 have hbit:iand .i64 (ishr .i64 (w64 (((s.getD (n/8) 0).toNat:Nat):Int)) ((n%8:Nat):Int)) 1=((((s.getD (n/8) 0).toNat.testBit (n%8)).toNat:Nat):Int):=by
  rw [w64_id (by omega) (by omega),ishr_nat _ _ (by omega),iand_one _ (Nat.lt_of_le_of_lt (Nat.div_le_self _ _) (by omega)),testBit_nat]
 rw [hbit,show ((n:Int)+1)=((n+1:Nat):Int) by omega]
theorem rBit_st {s:Str} {at_:Int} {bad:Bool} {m:Option (List Bool)} (hs:s.length≤1000000000) (h:Rs s at_ bad m):Ret (rBit s at_ bad) (BitPost s m):=by
 obtain ⟨n,rfl,hn⟩:=h.at
 unfold rBit
 by_cases hlt:n<8*s.length
 ·have hb0:=rBit_lt s n bad hs hlt
  unfold rBit at hb0
  rw [hb0]
  refine .pure ⟨rfl,_,rfl,?_,?_⟩
  ·cases m with
   | none=>exact ⟨h.1,n+1,rfl,by omega⟩
   | some l=>
    obtain ⟨hb,n',e,_,hd⟩:=h
    have:n'=n:=by omega
    subst this
    rw [List.drop_eq_getElem_cons (by rw [bitsOf_length];exact hlt)] at hd
    subst hd
    exact ⟨hb,n'+1,rfl,by omega,rfl⟩
  ·rintro c l rfl
   obtain ⟨hb,n',e,_,hd⟩:=h
   have:n'=n:=by omega
   subst this
   rw [List.drop_eq_getElem_cons (by rw [bitsOf_length];exact hlt),bitsOf_get s n' hlt] at hd
   exact (List.cons.inj hd).1
 ·((try simp (disch:=omega) only [need_and,need_dec,need_decf,need_fits,need_ne,need_t,w64_id,tmod_e,tdiv_e,bind_some',Option.map_some,cond_true,cond_false,Int.sub_zero,Int.toNat_natCast]);(try simp only [c_dec,c_eq,c_ne,c_nodec,c_not,if_true,if_false]))
  rw [if_pos (by omega)]
  refine .pure ⟨rfl,false,rfl,?_,?_⟩
  ·cases m with
   | none=>exact ⟨rfl,n,rfl,hn⟩
   | some l=>
    have:=h.len
    have:l=[]:=List.length_eq_zero_iff.1 (by omega)
    subst this
    exact ⟨rfl,n,rfl,hn⟩
  ·rintro c l rfl
   have:=h.len
   simp at this;omega
theorem sBit_eq (s:Str) (n:Nat) (bad:Bool) (hs:s.length≤1000000000) (hn:n≤8*s.length):sBit s (n:Int) bad=rBit s (n:Int) bad:=by
 unfold sBit rBit
 have hmod:((n:Int)).tmod 8=((n%8:Nat):Int):=by rw [tmod_e (by omega)];omega
 have hdiv:((n:Int)).tdiv 8=((n/8:Nat):Int):=by rw [tdiv_e (by omega)];omega
 simp only [hmod,hdiv]
 by_cases hlt:n<8*s.length
 ·((try simp (disch:=omega) only [need_and,need_dec,need_decf,need_fits,need_ne,need_t,w64_id,tmod_e,tdiv_e,bind_some',Option.map_some,cond_true,cond_false,Int.sub_zero,Int.toNat_natCast]);(try simp only [c_dec,c_eq,c_ne,c_nodec,c_not,if_true,if_false]))
  rw [if_neg (by omega),if_neg (by omega),l1Pow_eq _ (by omega)]
  have hc:(s.getD (n/8) 0).toNat<256:=(s.getD (n/8) 0).toNat_lt
  have hp:=Nat.two_pow_pos (n%8)
  rw [w64_id (by omega) (by omega),ishr_nat _ _ (by omega),iand_one _ (Nat.lt_of_le_of_lt (Nat.div_le_self _ _) (by omega))]
  simp only [bind_some']
  rw [need_true _ (by
   simp only [bne_iff_ne,ne_eq];intro h0;have h0:2^(n%8)=0:=by exact_mod_cast h0
   rw [h0] at hp;exact absurd hp (by omega))]
  have hle:(s.getD (n/8) 0).toNat/2^(n%8)≤(s.getD (n/8) 0).toNat:=Nat.div_le_self _ _
  rw [tdiv_e (Int.natCast_nonneg _),←Int.natCast_ediv]
  generalize (s.getD (n/8) 0).toNat/2^(n%8)=q at *
  ((try simp (disch:=omega) only [need_and,need_dec,need_decf,need_fits,need_ne,need_t,w64_id,tmod_e,tdiv_e,bind_some',Option.map_some,cond_true,cond_false,Int.sub_zero,Int.toNat_natCast]);(try simp only [c_dec,c_eq,c_ne,c_nodec,c_not,if_true,if_false]))
  rfl
 ·((try simp (disch:=omega) only [need_and,need_dec,need_decf,need_fits,need_ne,need_t,w64_id,tmod_e,tdiv_e,bind_some',Option.map_some,cond_true,cond_false,Int.sub_zero,Int.toNat_natCast]);(try simp only [c_dec,c_eq,c_ne,c_nodec,c_not,if_true,if_false]))
  rw [if_pos (by omega),if_pos (by omega)]
theorem sBit_st {s:Str} {at_:Int} {bad:Bool} {m:Option (List Bool)} (hs:s.length≤1000000000) (h:Rs s at_ bad m):Ret (sBit s at_ bad) (BitPost s m):=by
 obtain ⟨n,rfl,hn⟩:=h.at
 rw [sBit_eq s n bad hs hn];exact rBit_st hs h
def mNum (k:Nat):Option (List Bool)→Option (List Bool)
 | some l=>if k≤l.length then some (l.drop k) else none
 | none=>none
def NumPost (s:Str) (k:Nat) (m:Option (List Bool)) (r:Int×Str×Int×Bool):Prop:=
 r.2.1=s∧(∃v:Nat,r.1=(v:Int)∧v<2^k∧∀l,m=some l→k≤l.length→v=valB (l.take k))∧Rs s r.2.2.1 r.2.2.2 (mNum k m)
theorem mNum_zero (m:Option (List Bool)):mNum 0 m=m:=by cases m<;>simp [mNum]
theorem mNum_succ (k:Nat) (m:Option (List Bool)):mNum (k+1) m=uncons (mNum k m):=by
 cases m with
 | none=>rfl
 | some l=>
  simp only [mNum]
  by_cases h:k+1≤l.length
  ·rw [if_pos h,if_pos (by omega),List.drop_eq_getElem_cons (by omega:k<l.length)];rfl
  ·rw [if_neg h]
   by_cases h2:k≤l.length
   ·rw [if_pos h2,List.drop_eq_nil_of_le (by omega)];rfl
   ·rw [if_neg h2];rfl
theorem valB_take_succ (l:List Bool) (k:Nat) (h:k<l.length):valB (l.take (k+1))=valB (l.take k)+(l[k]).toNat*2^k:=by
 rw [List.take_succ_eq_append_getElem h,valB_append,List.length_take,Nat.min_eq_left (by omega)]
 simp only [valB,Nat.mul_zero,Nat.add_zero]
 rw [Nat.mul_comm (2^_)]
theorem rGet_l0 {s:Str} (hs:s.length≤1000000000) (k:Nat) (hk:k≤60) (m0:Option (List Bool)):∀(j i v:Nat) (at_:Int) (bad:Bool),i+j=k→v<2^i→(∀l,m0=some l→i≤l.length→v=valB (l.take i))→Rs s at_ bad (mNum i m0)→
  Ret (rGet.l0 (j+1) ((v:Int),(k:Int),(i:Int),s,at_,bad)) (NumPost s k m0)
 | 0,i,v,at_,bad,hi,hv,hl,h=>by
  rw [rGet.l0.succ];simp only [rGet.l0.step]
  rw [idx_ge (by omega)]
  have:i=k:=by omega
  subst this
  exact .pure ⟨rfl,⟨v,rfl,hv,hl⟩,h⟩
 | j+1,i,v,at_,bad,hi,hv,hl,h=>by
  rw [rGet.l0.succ];simp only [rGet.l0.step]
  rw [idx_lt (by omega),cond_true]
  refine .bind (rBit_st hs h) ?_
  rintro ⟨r,s',at',bad'⟩ ⟨rfl,b,rfl,h2,h3⟩
  dsimp only at h2 h3 ⊢
  have hb:b.toNat≤1:=by cases b<;>decide
  have hp:2^i≤2^60:=Nat.pow_le_pow_right (by omega) (by omega)
  have hle:b.toNat*2^i≤1*2^i:=Nat.mul_le_mul_right _ hb
  ((try simp (disch:=omega) only [need_and,need_dec,need_decf,need_fits,need_ne,need_t,w64_id,tmod_e,tdiv_e,bind_some',Option.map_some,cond_true,cond_false,Int.sub_zero,Int.toNat_natCast]);(try simp only [c_dec,c_eq,c_ne,c_nodec,c_not,if_true,if_false]))
  rw [ishl_nat _ _ (by omega) (by omega),ior_nat _ _ (by omega) (by omega),or_add v _ i hv,show ((i:Int)+1)=((i+1:Nat):Int) by omega]
  refine rGet_l0 hs k hk m0 j (i+1) _ at' bad' (by omega) (by rw [Nat.pow_succ];omega) (fun l hm hil=>?_) (by rw [mNum_succ];exact h2)
  subst hm
  have hlen:i<l.length:=by omega
  rw [valB_take_succ l i hlen,←hl l rfl (by omega)]
  have:=h3 l[i] (l.drop (i+1)) (by simp only [mNum];rw [if_pos (by omega),List.drop_eq_getElem_cons hlen])
  rw [this]
theorem rGet_st {s:Str} {at_:Int} {bad:Bool} {m:Option (List Bool)} (hs:s.length≤1000000000) (k:Nat) (hk:k≤60) (h:Rs s at_ bad m):Ret (rGet (k:Int) s at_ bad) (NumPost s k m):=by
 unfold rGet
 rw [fuel_of]
 refine .bind (rGet_l0 hs k hk m k 0 0 at_ bad (by omega) (by simp) (fun l _ _=>by simp [valB]) (by rw [mNum_zero];exact h)) ?_
 rintro ⟨r,s',at',bad'⟩ hr
 exact .pure hr
theorem sNum_l0 {s:Str} (hs:s.length≤1000000000) (k:Nat) (hk:k≤60) (m0:Option (List Bool)):∀(j i v:Nat) (at_:Int) (bad:Bool),i+j=k→v<2^i→(∀l,m0=some l→i≤l.length→v=valB (l.take i))→Rs s at_ bad (mNum i m0)→
  Ret (sNum.l0 (j+1) ((k:Int),(v:Int),(i:Int),s,at_,bad)) (NumPost s k m0)
 | 0,i,v,at_,bad,hi,hv,hl,h=>by
  rw [sNum.l0.succ];simp only [sNum.l0.step]
  rw [idx_ge (by omega)]
  have:i=k:=by omega
  subst this
  exact .pure ⟨rfl,⟨v,rfl,hv,hl⟩,h⟩
 | j+1,i,v,at_,bad,hi,hv,hl,h=>by
  rw [sNum.l0.succ];simp only [sNum.l0.step]
  rw [idx_lt (by omega),cond_true]
  refine .bind (sBit_st hs h) ?_
  rintro ⟨r,s',at',bad'⟩ ⟨rfl,b,rfl,h2,h3⟩
  dsimp only at h2 h3 ⊢
  have hb:b.toNat≤1:=by cases b<;>decide
  have hp:2^i≤2^60:=Nat.pow_le_pow_right (by omega) (by omega)
  have hle:b.toNat*2^i≤1*2^i:=Nat.mul_le_mul_right _ hb
  rw [l1Pow_eq i (by omega)]
  simp only [bind_some']
  rw [←Int.natCast_mul]
  ((try simp (disch:=omega) only [need_and,need_dec,need_decf,need_fits,need_ne,need_t,w64_id,tmod_e,tdiv_e,bind_some',Option.map_some,cond_true,cond_false,Int.sub_zero,Int.toNat_natCast]);(try simp only [c_dec,c_eq,c_ne,c_nodec,c_not,if_true,if_false]))
  rw [←Int.natCast_add,show ((i:Int)+1)=((i+1:Nat):Int) by omega]
  refine sNum_l0 hs k hk m0 j (i+1) _ at' bad' (by omega) (by rw [Nat.pow_succ];omega) (fun l hm hil=>?_) (by rw [mNum_succ];exact h2)
  subst hm
  have hlen:i<l.length:=by omega
  rw [valB_take_succ l i hlen,←hl l rfl (by omega)]
  have:=h3 l[i] (l.drop (i+1)) (by simp only [mNum];rw [if_pos (by omega),List.drop_eq_getElem_cons hlen])
  rw [this]
theorem sNum_st {s:Str} {at_:Int} {bad:Bool} {m:Option (List Bool)} (hs:s.length≤1000000000) (k:Nat) (hk:k≤60) (h:Rs s at_ bad m):Ret (sNum (k:Int) s at_ bad) (NumPost s k m):=by
 unfold sNum
 rw [fuel_of]
 refine .bind (sNum_l0 hs k hk m k 0 0 at_ bad (by omega) (by simp) (fun l _ _=>by simp [valB]) (by rw [mNum_zero];exact h)) ?_
 rintro ⟨r,s',at',bad'⟩ hr
 exact .pure hr
def mEven:Option (List Bool)→Option (List Bool)
 | some l=>if valB (l.take (l.length%8))=0 then some (l.drop (l.length%8)) else none
 | none=>none
theorem mEven_step (b:Bool) (l:List Bool) (h:(l.length+1)%8≠0):mEven (some (b::l))=if b then none else mEven (some l):=by
 have e:(l.length+1)%8=l.length%8+1:=by omega
 simp only [mEven,List.length_cons,e,List.take_succ_cons,List.drop_succ_cons,valB]
 cases b
 ·by_cases h0:valB (List.take (l.length%8) l)=0
  ·simp [h0]
  ·simp [h0];omega
 ·simp
theorem rEven_l0 {s:Str} (hs:s.length≤1000000000):∀(j:Nat) (at_:Int) (bad:Bool) (m:Option (List Bool)),Rs s at_ bad m→(8-at_.toNat%8)%8<j→
  Ret (rEven.l0 j (s,at_,bad)) fun r=>r.1=s∧Rs s r.2.1 r.2.2 (mEven m)
 | 0,_,_,_,_,h=>absurd h (by omega)
 | j+1,at_,bad,m,h,hj=>by
  obtain ⟨n,rfl,hn⟩:=h.at
  rw [rEven.l0.succ];simp only [rEven.l0.step]
  have hmod:((n:Int)).tmod 8=((n%8:Nat):Int):=by rw [tmod_e (by omega)];omega
  rw [hmod]
  ((try simp (disch:=omega) only [need_and,need_dec,need_decf,need_fits,need_ne,need_t,w64_id,tmod_e,tdiv_e,bind_some',Option.map_some,cond_true,cond_false,Int.sub_zero,Int.toNat_natCast]);(try simp only [c_dec,c_eq,c_ne,c_nodec,c_not,if_true,if_false]))
  refine .ite (fun h0=>.pure ⟨rfl,?_⟩) fun h0=>?_
  ·cases m with
   | none=>exact h
   | some l=>
    have hl:=h.len
    have:l.length%8=0:=by omega
    simp only [mEven,this,List.take_zero,List.drop_zero,valB,if_true];exact h
  ·have hlt:n<8*s.length:=by omega
   have hst:=rBit_st hs h
   rw [rBit_lt s n bad hs hlt] at hst ⊢
   obtain ⟨r0,hr0,hst⟩:=hst
   cases hr0
   obtain ⟨_,b,hb,h2,h3⟩:=hst
   dsimp only at hb h2 h3
   have hbb:(s.getD (n/8) 0).toNat.testBit (n%8)=b:=by
    generalize (s.getD (n/8) 0).toNat.testBit (n%8)=c at hb
    revert hb;cases b<;>cases c<;>simp
   rw [hbb]
   simp only [bind_some']
   have fin:∀bad2,Rs s ((n+1:Nat):Int) bad2 (match m with
     | some (c::l)=>if b then none else some l
     | _=>none)→Ret (rEven.l0 j (s,((n+1:Nat):Int),bad2)) fun r=>r.1=s∧Rs s r.2.1 r.2.2 (mEven m):=fun bad2 h4=>by
    refine (rEven_l0 hs j _ bad2 _ h4 (by omega)).mono fun r ⟨e1,e2⟩=>⟨e1,?_⟩
    cases m with
    | none=>exact e2
    | some l=>
     cases l with
     | nil=>have:=h.len;simp at this;omega
     | cons c l=>
      have hl:=h.len
      rw [mEven_step c l (by simp at hl;omega),←h3 c l rfl]
      cases b<;>exact e2
   ((try simp (disch:=omega) only [need_and,need_dec,need_decf,need_fits,need_ne,need_t,w64_id,tmod_e,tdiv_e,bind_some',Option.map_some,cond_true,cond_false,Int.sub_zero,Int.toNat_natCast]);(try simp only [c_dec,c_eq,c_ne,c_nodec,c_not,if_true,if_false]))
   refine .ite (fun hb0=>fin bad ?_) fun hb0=>fin true ?_
   ·have:b=false:=by cases b<;>simp at hb0 ⊢
    subst this
    cases m with
    | none=>exact h2
    | some l=>cases l<;>exact h2
   ·have:b=true:=by cases b<;>simp at hb0 ⊢
    subst this
    cases m with
    | none=>exact h2.fail
    | some l=>cases l<;>exact h2.fail
theorem rEven_st {s:Str} {at_:Int} {bad:Bool} {m:Option (List Bool)} (hs:s.length≤1000000000) (h:Rs s at_ bad m):Ret (rEven s at_ bad) fun r=>r.1=s∧Rs s r.2.1 r.2.2 (mEven m):=by
 unfold rEven
 refine .bind (rEven_l0 hs 9 at_ bad m h (by omega)) ?_
 rintro ⟨s',a,b⟩ hr
 exact .pure hr
theorem sWhole_l0 {s:Str} (hs:s.length≤1000000000):∀(j v:Nat) (at_:Int) (bad:Bool) (m:Option (List Bool)),Rs s at_ bad m→(8-at_.toNat%8)%8<j→v≤100-8*((8-at_.toNat%8)%8)→
  Ret (sWhole.l0 j ((v:Int),s,at_,bad)) fun r=>r.2.1=s∧∃q:Nat,r.1=(q:Int)∧v≤q∧((v=q→Rs s r.2.2.1 r.2.2.2 (mEven m))∧(v≠q→mEven m=none∧∃m',Rs s r.2.2.1 r.2.2.2 m'))
 | 0,_,_,_,_,_,h,_=>absurd h (by omega)
 | j+1,v,at_,bad,m,h,hj,hv=>by
  obtain ⟨n,rfl,hn⟩:=h.at
  rw [sWhole.l0.succ];simp only [sWhole.l0.step]
  have hmod:((n:Int)).tmod 8=((n%8:Nat):Int):=by rw [tmod_e (by omega)];omega
  rw [hmod]
  ((try simp (disch:=omega) only [need_and,need_dec,need_decf,need_fits,need_ne,need_t,w64_id,tmod_e,tdiv_e,bind_some',Option.map_some,cond_true,cond_false,Int.sub_zero,Int.toNat_natCast]);(try simp only [c_dec,c_eq,c_ne,c_nodec,c_not,if_true,if_false]))
  refine .ite (fun h0=>.pure ⟨rfl,v,rfl,Nat.le_refl _,fun _=>?_,fun h=>absurd rfl h⟩) fun h0=>?_
  ·cases m with
   | none=>exact h
   | some l=>
    have hl:=h.len
    have:l.length%8=0:=by omega
    simp only [mEven,this,List.take_zero,List.drop_zero,valB,if_true];exact h
  ·have hlt:n<8*s.length:=by omega
   have hst:=rBit_st hs h
   rw [sBit_eq s n bad hs hn]
   rw [rBit_lt s n bad hs hlt] at hst ⊢
   obtain ⟨r0,hr0,hst⟩:=hst
   cases hr0
   obtain ⟨_,b,hb,h2,h3⟩:=hst
   dsimp only at hb h2 h3
   have hbb:(s.getD (n/8) 0).toNat.testBit (n%8)=b:=by
    generalize (s.getD (n/8) 0).toNat.testBit (n%8)=c at hb
    revert hb;cases b<;>cases c<;>simp
   rw [hbb]
   simp only [bind_some']
   have hb1:b.toNat≤1:=by cases b<;>decide
   ((try simp (disch:=omega) only [need_and,need_dec,need_decf,need_fits,need_ne,need_t,w64_id,tmod_e,tdiv_e,bind_some',Option.map_some,cond_true,cond_false,Int.sub_zero,Int.toNat_natCast]);(try simp only [c_dec,c_eq,c_ne,c_nodec,c_not,if_true,if_false]))
   rw [←Int.natCast_add]
   refine (sWhole_l0 hs j (v+b.toNat) _ bad _ h2 (by omega) (by omega)).mono fun r ⟨e1,q,e2,e3,e4,e5⟩=>⟨e1,q,e2,by omega,fun hq=>?_,fun hq=>?_⟩
   ·have:b=false:=by cases b<;>simp at e3 ⊢<;>omega
    subst this
    have e4:=e4 (by simp;omega)
    cases m with
    | none=>exact e4
    | some l=>
     cases l with
     | nil=>have:=h.len;simp at this;omega
     | cons c l=>
      have hl:=h.len
      rw [mEven_step c l (by simp at hl;omega),←h3 c l rfl]
      exact e4
   ·by_cases hq2:v+b.toNat=q
    ·refine ⟨?_,_,e4 hq2⟩
     have:b=true:=by cases b<;>simp at hq2 ⊢;omega
     subst this
     cases m with
     | none=>rfl
     | some l=>
      cases l with
      | nil=>have:=h.len;simp at this;omega
      | cons c l=>
       have hl:=h.len
       rw [mEven_step c l (by simp at hl;omega),←h3 c l rfl];rfl
    ·obtain ⟨f1,f2⟩:=e5 hq2
     refine ⟨?_,f2⟩
     cases m with
     | none=>rfl
     | some l=>
      cases l with
      | nil=>have:=h.len;simp at this;omega
      | cons c l=>
       have hl:=h.len
       rw [mEven_step c l (by simp at hl;omega)]
       cases c
       ·exact f1
       ·rfl
theorem sWhole_st {s:Str} {at_:Int} {bad:Bool} {m:Option (List Bool)} (hs:s.length≤1000000000) (h:Rs s at_ bad m):Ret (sWhole s at_ bad) fun r=>r.2.1=s∧(r.1=true→Rs s r.2.2.1 r.2.2.2 (mEven m))∧(r.1=false→mEven m=none∧∃m',Rs s r.2.2.1 r.2.2.2 m'):=by
 unfold sWhole
 refine .bind (sWhole_l0 hs 9 0 at_ bad m h (by omega) (by omega)) ?_
 rintro ⟨v,s',a,b⟩ ⟨e1,q,e2,e3,e4,e5⟩
 dsimp only at e1 e2 e3 e4 e5 ⊢
 subst e2
 refine .pure ⟨e1,fun hq=>e4 ?_,fun hq=>e5 ?_⟩
 ·dsimp only at hq;rw [beq_iff_eq] at hq;omega
 ·dsimp only at hq;rw [beq_eq_false_iff_ne] at hq;omega
end Ev
end
section
namespace Ev
open Go
theorem wrap_u32 (n:Int):IntKind.wrap .u32 n=n%4294967296:=by simp [IntKind.wrap,IntKind.bits,IntKind.signed]
theorem ixor_u32 (x y:Nat) (hx:x<4294967296) (hy:y<4294967296):ixor .u32 (x:Int) (y:Int)=((x^^^y:Nat):Int):=by
 have hz:x^^^y<2^32:=Nat.xor_lt_two_pow (by omega) (by omega)
 unfold ixor
 have e:(BitVec.ofInt IntKind.u32.bits (x:Int)^^^BitVec.ofInt IntKind.u32.bits (y:Int)).toNat=x^^^y:=by
  simp only [BitVec.ofInt_natCast,BitVec.toNat_xor,BitVec.toNat_ofNat,show IntKind.u32.bits=32 from rfl]
  rw [Nat.mod_eq_of_lt (by omega),Nat.mod_eq_of_lt (by omega)]
 rw [e,wrap_u32];omega
theorem iand_u32_one (x:Nat) (hx:x<4294967296):iand .u32 (x:Int) 1=((x%2:Nat):Int):=by
 have hz:x &&& 1<2^32:=Nat.and_lt_two_pow _ (by omega)
 unfold iand
 have e:(BitVec.ofInt IntKind.u32.bits (x:Int) &&& BitVec.ofInt IntKind.u32.bits ((1:Nat):Int)).toNat=x &&& 1:=by
  simp only [BitVec.ofInt_natCast,BitVec.toNat_and,BitVec.toNat_ofNat,show IntKind.u32.bits=32 from rfl]
  rw [Nat.mod_eq_of_lt (by omega),Nat.mod_eq_of_lt (by omega)]
 rw [show (1:Int)=((1:Nat):Int) from rfl,e,wrap_u32,Nat.and_one_is_mod];omega
theorem ishr_u32_one (x:Nat):ishr .u32 (x:Int) 1=((x/2:Nat):Int):=by
 unfold ishr
 rw [show min (1:Int).toNat IntKind.u32.bits=1 from rfl,show ((2:Int)^1)=2 by rfl,Int.fdiv_eq_ediv_of_nonneg _ (by omega)]
 omega
def crcStep (c:Nat):Nat:=if c%2=1 then c/2^^^3988292384 else c/2
def crcSteps:Nat→Nat→Nat
 | 0,c=>c
 | n+1,c=>crcSteps n (crcStep c)
def crcByte (c:Nat) (b:UInt8):Nat:=crcSteps 8 (c^^^b.toNat)
def crcM (text:Str):Nat:=text.foldl crcByte 4294967295^^^4294967295
theorem crcStep_lt {c:Nat} (h:c<4294967296):crcStep c<4294967296:=by
 unfold crcStep
 split
 ·exact Nat.xor_lt_two_pow (n:=32) (by omega) (by omega)
 ·omega
theorem crcSteps_lt:∀{n c:Nat},c<4294967296→crcSteps n c<4294967296
 | 0,c,h=>h
 | n+1,c,h=>crcSteps_lt (n:=n) (crcStep_lt h)
theorem crcByte_lt {c:Nat} {b:UInt8} (h:c<4294967296):crcByte c b<4294967296:=
 crcSteps_lt (Nat.xor_lt_two_pow (n:=32) (by omega) (by have:=b.toNat_lt;omega))
theorem crcFold_lt:∀(text:Str) {c:Nat},c<4294967296→text.foldl crcByte c<4294967296
 | [],_,h=>h
 | b::t,_,h=>crcFold_lt t (crcByte_lt h)
theorem crcM_lt (text:Str):crcM text<4294967296:=Nat.xor_lt_two_pow (n:=32) (crcFold_lt text (by omega)) (by omega)
theorem crcUpdate_l0 (text:Str) (k:Int):∀(j i c:Nat),i+j=8→c<4294967296→crcUpdate.l0 (j+1) ((c:Int),text,k,(i:Int))=some (((crcSteps j c:Nat):Int),text,k)
 | 0,i,c,hi,hc=>by
  rw [crcUpdate.l0.succ];simp only [crcUpdate.l0.step]
  ((try simp (disch:=omega) only [need_and,need_dec,need_decf,need_fits,need_ne,need_t,w64_id,tmod_e,tdiv_e,bind_some',Option.map_some,cond_true,cond_false,Int.sub_zero,Int.toNat_natCast]);(try simp only [c_dec,c_eq,c_ne,c_nodec,c_not,if_true,if_false]))
  rw [if_neg (by omega)];rfl
 | j+1,i,c,hi,hc=>by
  have ih:=crcUpdate_l0 text k j (i+1) (crcStep c) (by omega) (crcStep_lt hc)
  rw [crcUpdate.l0.succ];simp only [crcUpdate.l0.step]
  ((try simp (disch:=omega) only [need_and,need_dec,need_decf,need_fits,need_ne,need_t,w64_id,tmod_e,tdiv_e,bind_some',Option.map_some,cond_true,cond_false,Int.sub_zero,Int.toNat_natCast]);(try simp only [c_dec,c_eq,c_ne,c_nodec,c_not,if_true,if_false]))
  rw [if_pos (by omega),ishr_u32_one,iand_u32_one c hc]
  have e:ixor .u32 ((c/2:Nat):Int) (IntKind.wrap .u32 (3988292384*((c%2:Nat):Int)))=((crcStep c:Nat):Int):=by
   rw [wrap_u32]
   unfold crcStep
   split
   ·rename_i h1
    rw [h1,show ((3988292384:Int)*((1:Nat):Int)%4294967296)=((3988292384:Nat):Int) by rfl,ixor_u32 _ _ (by omega) (by omega)]
   ·rename_i h1
    have:c%2=0:=by omega
    rw [this,show ((3988292384:Int)*((0:Nat):Int)%4294967296)=((0:Nat):Int) by rfl,ixor_u32 _ _ (by omega) (by omega),Nat.xor_zero]
  rw [e,show ((i:Int)+1)=((i+1:Nat):Int) by omega,ih];rfl
theorem crcUpdate_l1 (text:Str) (hs:text.length≤1000000000):∀(j i c:Nat),i+j=text.length→c<4294967296→crcUpdate.l1 (j+1) ((c:Int),text,(i:Int))=some (((text.drop i).foldl crcByte c:Nat):Int)
 | 0,i,c,hi,hc=>by
  rw [crcUpdate.l1.succ];simp only [crcUpdate.l1.step]
  ((try simp (disch:=omega) only [need_and,need_dec,need_decf,need_fits,need_ne,need_t,w64_id,tmod_e,tdiv_e,bind_some',Option.map_some,cond_true,cond_false,Int.sub_zero,Int.toNat_natCast]);(try simp only [c_dec,c_eq,c_ne,c_nodec,c_not,if_true,if_false]))
  rw [if_neg (by omega),List.drop_eq_nil_of_le (by omega)];rfl
 | j+1,i,c,hi,hc=>by
  have hlt:i<text.length:=by omega
  rw [crcUpdate.l1.succ];simp only [crcUpdate.l1.step]
  ((try simp (disch:=omega) only [need_and,need_dec,need_decf,need_fits,need_ne,need_t,w64_id,tmod_e,tdiv_e,bind_some',Option.map_some,cond_true,cond_false,Int.sub_zero,Int.toNat_natCast]);(try simp only [c_dec,c_eq,c_ne,c_nodec,c_not,if_true,if_false]))
  rw [if_pos (by omega)]
  have hb:(text.getD i 0).toNat<256:=(text.getD i 0).toNat_lt
  rw [wrap_u32,show (((text.getD i 0).toNat:Int)%4294967296)=(((text.getD i 0).toNat:Nat):Int) by omega,ixor_u32 _ _ hc (by omega)]
  have h0:=crcUpdate_l0 text (i:Int) 8 0 (c^^^(text.getD i 0).toNat) (by omega) (Nat.xor_lt_two_pow (n:=32) (by omega) (by omega))
  rw [show ((0:Nat):Int)=0 from rfl] at h0
  rw [show ((8:Int)).toNat+1=8+1 from rfl,h0]
  simp only [bind_some']
  ((try simp (disch:=omega) only [need_and,need_dec,need_decf,need_fits,need_ne,need_t,w64_id,tmod_e,tdiv_e,bind_some',Option.map_some,cond_true,cond_false,Int.sub_zero,Int.toNat_natCast]);(try simp only [c_dec,c_eq,c_ne,c_nodec,c_not,if_true,if_false]))
  rw [show ((i:Int)+1)=((i+1:Nat):Int) by omega]
  have:=crcUpdate_l1 text hs j (i+1) (crcByte c (text.getD i 0)) (by omega) (crcByte_lt hc)
  unfold crcByte at this
  rw [this,List.drop_eq_getElem_cons hlt,getD_in hlt];rfl
theorem crc_eq (text:Str) (hs:text.length≤1000000000):crc text=some ((crcM text:Nat):Int):=by
 unfold crc crcUpdate
 rw [fuel_of]
 have e:ixor .u32 (IntKind.max .u32) 0=((4294967295:Nat):Int):=ixor_u32 4294967295 0 (by omega) (by omega)
 have h:=crcUpdate_l1 text hs text.length 0 4294967295 (by omega) (by omega)
 rw [show ((0:Nat):Int)=0 from rfl] at h
 rw [e,h]
 simp only [bind_some',List.drop_zero]
 have hl:=crcFold_lt text (c:=4294967295) (by omega)
 have e2:ixor .u32 (IntKind.max .u32) ((text.foldl crcByte 4294967295:Nat):Int)=((crcM text:Nat):Int):=by
  rw [show IntKind.max .u32=((4294967295:Nat):Int) from rfl,ixor_u32 _ _ (by omega) hl,Nat.xor_comm];rfl
 rw [e2]
 have:=crcM_lt text
 ((try simp (disch:=omega) only [need_and,need_dec,need_decf,need_fits,need_ne,need_t,w64_id,tmod_e,tdiv_e,bind_some',Option.map_some,cond_true,cond_false,Int.sub_zero,Int.toNat_natCast]);(try simp only [c_dec,c_eq,c_ne,c_nodec,c_not,if_true,if_false]))
theorem l2Step_l0:∀(j i c:Nat),i+j=8→c<4294967296→l2Step.l0 (j+1) ((c:Int),(i:Int))=some ((crcSteps j c:Nat):Int)
 | 0,i,c,hi,hc=>by
  rw [l2Step.l0.succ];simp only [l2Step.l0.step]
  ((try simp (disch:=omega) only [need_and,need_dec,need_decf,need_fits,need_ne,need_t,w64_id,tmod_e,tdiv_e,bind_some',Option.map_some,cond_true,cond_false,Int.sub_zero,Int.toNat_natCast]);(try simp only [c_dec,c_eq,c_ne,c_nodec,c_not,if_true,if_false]))
  rw [if_neg (by omega)];rfl
 | j+1,i,c,hi,hc=>by
  have ih:=l2Step_l0 j (i+1) (crcStep c) (by omega) (crcStep_lt hc)
  rw [l2Step.l0.succ];simp only [l2Step.l0.step]
  ((try simp (disch:=omega) only [need_and,need_dec,need_decf,need_fits,need_ne,need_t,w64_id,tmod_e,tdiv_e,bind_some',Option.map_some,cond_true,cond_false,Int.sub_zero,Int.toNat_natCast]);(try simp only [c_dec,c_eq,c_ne,c_nodec,c_not,if_true,if_false]))
  rw [if_pos (by omega),show ((i:Int)+1)=((i+1:Nat):Int) by omega,wrap_u32,show ((c:Int)/2%4294967296)=((c/2:Nat):Int) by omega]
  unfold crcSteps
  rw [←ih]
  unfold crcStep
  by_cases h:c%2=1
  ·have:=ixor_u32 (c/2) 3988292384 (by omega) (by omega)
   rw [show ((3988292384:Nat):Int)=3988292384 from rfl] at this
   rw [if_pos (by omega),this,if_pos h]
  ·rw [if_neg (by omega),if_neg h]
theorem l2Step_eq (c:Nat) (b:UInt8) (hc:c<4294967296):l2Step (c:Int) ((b.toNat:Nat):Int)=some ((crcByte c b:Nat):Int):=by
 unfold l2Step
 have hb:b.toNat<256:=b.toNat_lt
 have h0:=l2Step_l0 8 0 (c^^^b.toNat) (by omega) (Nat.xor_lt_two_pow (n:=32) (by omega) (by omega))
 rw [wrap_u32,show (((b.toNat:Nat):Int)%4294967296)=((b.toNat:Nat):Int) by omega,ixor_u32 _ _ hc (by omega)]
 rw [show ((0:Nat):Int)=0 from rfl] at h0
 rw [show ((8:Int)-0).toNat+1=8+1 from rfl,h0];rfl
theorem l2More_l0 (text:Str) (hs:text.length≤1000000000):∀(j i c:Nat),i+j=text.length→c<4294967296→l2More.l0 (j+1) (text,(c:Int),(i:Int))=some (((text.drop i).foldl crcByte c:Nat):Int)
 | 0,i,c,hi,hc=>by
  rw [l2More.l0.succ];simp only [l2More.l0.step]
  ((try simp (disch:=omega) only [need_and,need_dec,need_decf,need_fits,need_ne,need_t,w64_id,tmod_e,tdiv_e,bind_some',Option.map_some,cond_true,cond_false,Int.sub_zero,Int.toNat_natCast]);(try simp only [c_dec,c_eq,c_ne,c_nodec,c_not,if_true,if_false]))
  rw [if_neg (by omega),List.drop_eq_nil_of_le (by omega)];rfl
 | j+1,i,c,hi,hc=>by
  have hlt:i<text.length:=by omega
  rw [l2More.l0.succ];simp only [l2More.l0.step]
  ((try simp (disch:=omega) only [need_and,need_dec,need_decf,need_fits,need_ne,need_t,w64_id,tmod_e,tdiv_e,bind_some',Option.map_some,cond_true,cond_false,Int.sub_zero,Int.toNat_natCast]);(try simp only [c_dec,c_eq,c_ne,c_nodec,c_not,if_true,if_false]))
  rw [if_pos (by omega),l2Step_eq c _ hc]
  ((try simp (disch:=omega) only [need_and,need_dec,need_decf,need_fits,need_ne,need_t,w64_id,tmod_e,tdiv_e,bind_some',Option.map_some,cond_true,cond_false,Int.sub_zero,Int.toNat_natCast]);(try simp only [c_dec,c_eq,c_ne,c_nodec,c_not,if_true,if_false]))
  rw [show ((i:Int)+1)=((i+1:Nat):Int) by omega,l2More_l0 text hs j (i+1) _ (by omega) (crcByte_lt hc),List.drop_eq_getElem_cons hlt,getD_in hlt];rfl
theorem specCrc_eq (text:Str) (hs:text.length≤1000000000):specCrc text=some ((crcM text:Nat):Int):=by
 unfold specCrc l2More
 rw [fuel_of]
 have e:ixor .u32 0 4294967295=((4294967295:Nat):Int):=ixor_u32 0 4294967295 (by omega) (by omega)
 have h:=l2More_l0 text hs text.length 0 4294967295 (by omega) (by omega)
 rw [show ((0:Nat):Int)=0 from rfl] at h
 rw [e,h]
 simp only [bind_some',List.drop_zero]
 have hl:=crcFold_lt text (c:=4294967295) (by omega)
 have e2:ixor .u32 ((text.foldl crcByte 4294967295:Nat):Int) 4294967295=((crcM text:Nat):Int):=ixor_u32 _ 4294967295 hl (by omega)
 rw [e2]
 have:=crcM_lt text
 ((try simp (disch:=omega) only [need_and,need_dec,need_decf,need_fits,need_ne,need_t,w64_id,tmod_e,tdiv_e,bind_some',Option.map_some,cond_true,cond_false,Int.sub_zero,Int.toNat_natCast]);(try simp only [c_dec,c_eq,c_ne,c_nodec,c_not,if_true,if_false]))
end Ev
end
section
namespace Ev
open Go
def zs (ns:List Nat):List Int:=ns.map fun (n:Nat)=>(n:Int)
theorem zs_length (ns:List Nat):(zs ns).length=ns.length:=by simp [zs]
theorem zs_getD (ns:List Nat) (i:Nat):(zs ns).getD i 0=((ns.getD i 0:Nat):Int):=by
 simp only [zs,List.getD_eq_getElem?_getD,List.getElem?_map]
 cases ns[i]?<;>rfl
theorem zs_append (a b:List Nat):zs (a++b)=zs a++zs b:=by simp [zs]
theorem zs_set (a:List Nat) (i n:Nat):(zs a).set i (n:Int)=zs (a.set i n):=by simp [zs,List.map_set]
theorem zs_replicate (k n:Nat):List.replicate k (n:Int)=zs (List.replicate k n):=by simp [zs]
def kraft:List Nat→Nat
 | []=>0
 | n::r=>(if 0<n then 2^(15-n) else 0)+kraft r
def used:List Nat→Nat
 | []=>0
 | n::r=>(if 0<n then 1 else 0)+used r
theorem used_le:∀ns:List Nat,used ns≤ns.length
 | []=>Nat.le_refl _
 | n::r=>by
  have:=used_le r
  simp only [used,List.length_cons]
  split<;>omega
def lensM (ns:List Nat):Bool:=decide (ns.length≤300)&&(ns.all (fun n=>decide (n≤15))&&(decide (kraft ns=32768)||decide (used ns=1∧kraft ns=16384)))
def lastU (a:Nat):List Nat→Nat
 | []=>a
 | n::r=>lastU (if 0<n then n else a) r
theorem lensOk_l0 (ns:List Nat) (hn:ns.length≤300):∀(j i sum many last:Nat),i+j=ns.length→sum≤32768*i→many≤i→
  lensOk.l0 (j+1) ((sum:Int),(many:Int),(last:Int),zs ns,(ns.length:Int),(i:Int)) =
   some (if (ns.drop i).all (fun n=>decide (n≤15)) then .inl (((sum+kraft (ns.drop i):Nat):Int),((many+used (ns.drop i):Nat):Int),((lastU last (ns.drop i):Nat):Int)) else .inr false)
 | 0,i,sum,many,last,hi,h1,h2=>by
  rw [lensOk.l0.succ];simp only [lensOk.l0.step]
  rw [idx_ge (by omega),List.drop_eq_nil_of_le (by omega)];rfl
 | j+1,i,sum,many,last,hi,h1,h2=>by
  have hlt:i<ns.length:=by omega
  have hd:ns.drop i=ns[i]::ns.drop (i+1):=List.drop_eq_getElem_cons hlt
  have hg:ns.getD i 0=ns[i]:=getD_in hlt
  rw [lensOk.l0.succ];simp only [lensOk.l0.step]
  rw [idx_lt hlt,cond_true,need_true _ (by rw [zs_length];exact idx_in hlt),Int.toNat_natCast,zs_getD,hg,within_eq',hd,List.all_cons]
  simp only [bind_some']
  by_cases h15:ns[i]≤15
  ·have e1:decide ((0:Int)≤(ns[i]:Int)∧(ns[i]:Int)≤15)=true:=by simp;omega
   rw [e1,decide_eq_true h15,Bool.true_and]
   simp only [Bool.not_true,cond_false,c_dec]
   by_cases h0:0<ns[i]
   ·have hp:2^(15-ns[i])≤2^15:=Nat.pow_le_pow_right (by omega) (by omega)
    have hp0:0<2^(15-ns[i]):=Nat.two_pow_pos _
    have hsh:=ishl_nat 1 (15-ns[i]) (by omega) (by omega)
    rw [Nat.one_mul,show ((1:Nat):Int)=1 from rfl,show ((15-ns[i]:Nat):Int)=15-(ns[i]:Int) by omega] at hsh
    rw [if_pos (by omega)]
    ((try simp (disch:=omega) only [need_and,need_dec,need_decf,need_fits,need_ne,need_t,w64_id,tmod_e,tdiv_e,bind_some',Option.map_some,cond_true,cond_false,Int.sub_zero,Int.toNat_natCast,hsh]);(try simp only [c_dec,c_eq,c_ne,c_nodec,c_not,if_true,if_false,hsh]))
    rw [show (sum:Int)+((2^(15-ns[i]):Nat):Int)=((sum+2^(15-ns[i]):Nat):Int) by omega,show (many:Int)+1=((many+1:Nat):Int) by omega,show (i:Int)+1=((i+1:Nat):Int) by omega,
     lensOk_l0 ns hn j (i+1) _ _ _ (by omega) (by omega) (by omega)]
    simp only [kraft,used,lastU,if_pos h0,Nat.add_assoc]
   ·rw [if_neg (by omega)]
    ((try simp (disch:=omega) only [need_and,need_dec,need_decf,need_fits,need_ne,need_t,w64_id,tmod_e,tdiv_e,bind_some',Option.map_some,cond_true,cond_false,Int.sub_zero,Int.toNat_natCast]);(try simp only [c_dec,c_eq,c_ne,c_nodec,c_not,if_true,if_false]))
    rw [show (i:Int)+1=((i+1:Nat):Int) by omega,lensOk_l0 ns hn j (i+1) _ _ _ (by omega) (by omega) (by omega)]
    simp only [kraft,used,lastU,if_neg h0,Nat.zero_add]
  ·have e1:decide ((0:Int)≤(ns[i]:Int)∧(ns[i]:Int)≤15)=false:=by simp;omega
   rw [e1,decide_eq_false h15]
   rfl
theorem lastU_one:∀{ns:List Nat} {a:Nat},used ns=1→kraft ns=2^(15-lastU a ns)∧0<lastU a ns
 | [],a,h=>by simp [used] at h
 | n::r,a,h=>by
  simp only [used] at h
  have z:∀r (a:Nat),used r=0→kraft r=0∧lastU a r=a:=fun r=>by
   induction r with
   | nil=>intro _ _;exact ⟨rfl,rfl⟩
   | cons m r ih=>
    intro a h
    simp only [used] at h
    by_cases hm:0<m
    ·rw [if_pos hm] at h;omega
    ·rw [if_neg hm] at h;simp only [kraft,lastU];rw [if_neg hm,if_neg hm,(ih a (by omega)).1];exact ⟨rfl,(ih a (by omega)).2⟩
  by_cases hn:0<n
  ·rw [if_pos hn] at h
   have h0:used r=0:=by omega
   simp only [kraft,lastU,if_pos hn,(z r n h0).1,(z r n h0).2]
   exact ⟨rfl,hn⟩
  ·rw [if_neg hn] at h
   have:=lastU_one (ns:=r) (a:=a) (by omega)
   simp only [kraft,lastU,if_neg hn,Nat.zero_add]
   exact this
theorem lensOk_eq (ns:List Nat):lensOk (zs ns)=some (lensM ns):=by
 unfold lensOk lensM
 rw [zs_length]
 ((try simp (disch:=omega) only [need_and,need_dec,need_decf,need_fits,need_ne,need_t,w64_id,tmod_e,tdiv_e,bind_some',Option.map_some,cond_true,cond_false,Int.sub_zero,Int.toNat_natCast]);(try simp only [c_dec,c_eq,c_ne,c_nodec,c_not,if_true,if_false]))
 by_cases hn:ns.length≤300
 ·rw [if_neg (by omega)]
  have h:=lensOk_l0 ns hn ns.length 0 0 0 0 (by omega) (by omega) (by omega)
  rw [show ((0:Nat):Int)=0 from rfl,List.drop_zero] at h
  rw [h,decide_eq_true hn]
  cases hall:ns.all (fun n=>decide (n≤15)) with
  | false=>rfl
  | true=>
   simp only [if_true,bind_some',Bool.true_and,Nat.zero_add,c_eq]
   by_cases hk:kraft ns=32768
   ·rw [if_pos (by omega),decide_eq_true hk];rfl
   ·rw [if_neg (by omega),decide_eq_false hk]
    by_cases hu:used ns=1
    ·rw [if_pos (by omega)]
     obtain ⟨e1,e2⟩:=lastU_one (a:=0) hu
     simp only [bind_some',Bool.false_or]
     have hl15:lastU 0 ns≤15∨15<lastU 0 ns:=by omega
     have:((((lastU 0 ns:Nat):Int))==1)=decide (used ns=1∧kraft ns=16384):=by
      rw [Bool.eq_iff_iff,beq_iff_eq,decide_eq_true_eq]
      constructor
      ·intro h1
       have h1:lastU 0 ns=1:=by omega
       exact ⟨hu,by rw [e1,h1]⟩
      ·rintro ⟨_,h2⟩
       rw [h2] at e1
       have hlt:lastU 0 ns<15:=by
        rcases Nat.lt_or_ge (lastU 0 ns) 15 with q | q
        ·exact q
        ·rw [show 15-lastU 0 ns=0 by omega] at e1;simp at e1
       have:(2:Nat)^14=2^(15-lastU 0 ns):=by rw [←e1]
       have hcases:lastU 0 ns=1∨2≤lastU 0 ns:=by omega
       rcases hcases with q | q
       ·omega
       ·have:2^(15-lastU 0 ns)<2^14:=Nat.pow_lt_pow_right (by omega) (by omega)
        omega
     rw [this]
    ·rw [if_neg (by omega)]
     have:decide (used ns=1∧kraft ns=16384)=false:=by simp [hu]
     rw [this];rfl
 ·rw [if_pos (by omega),decide_eq_false hn];rfl
theorem idx_in' {i:Nat}:(decide ((0:Int)≤(i:Int))&&true)=true:=by simp
theorem l3Used_l0 (ns:List Nat) (hn:ns.length≤1000000):∀(j i many:Nat),i+j=ns.length→many≤i→l3Used.l0 (j+1) (zs ns,(many:Int),(i:Int))=some ((many+used (ns.drop i):Nat):Int)
 | 0,i,many,hi,h2=>by
  rw [l3Used.l0.succ];simp only [l3Used.l0.step,zs_length]
  rw [idx_ge (by omega),List.drop_eq_nil_of_le (by omega)];rfl
 | j+1,i,many,hi,h2=>by
  have hlt:i<ns.length:=by omega
  have hd:ns.drop i=ns[i]::ns.drop (i+1):=List.drop_eq_getElem_cons hlt
  have hg:ns.getD i 0=ns[i]:=getD_in hlt
  rw [l3Used.l0.succ];simp only [l3Used.l0.step,zs_length]
  rw [idx_lt hlt,cond_true,need_true _ idx_in',Int.toNat_natCast,zs_getD,hg,hd]
  ((try simp (disch:=omega) only [need_and,need_dec,need_decf,need_fits,need_ne,need_t,w64_id,tmod_e,tdiv_e,bind_some',Option.map_some,cond_true,cond_false,Int.sub_zero,Int.toNat_natCast]);(try simp only [c_dec,c_eq,c_ne,c_nodec,c_not,if_true,if_false]))
  by_cases h0:0<ns[i]
  ·rw [if_pos (by omega),show (many:Int)+1=((many+1:Nat):Int) by omega,show (i:Int)+1=((i+1:Nat):Int) by omega,l3Used_l0 ns hn j (i+1) _ (by omega) (by omega)]
   simp only [used,if_pos h0,Nat.add_assoc]
  ·rw [if_neg (by omega),show (i:Int)+1=((i+1:Nat):Int) by omega,l3Used_l0 ns hn j (i+1) _ (by omega) (by omega)]
   simp only [used,if_neg h0,Nat.zero_add]
theorem l3Used_eq (ns:List Nat) (hn:ns.length≤1000000):l3Used (zs ns)=some ((used ns:Nat):Int):=by
 unfold l3Used
 have h:=l3Used_l0 ns hn ns.length 0 0 (by omega) (by omega)
 rw [show ((0:Nat):Int)=0 from rfl,List.drop_zero,Nat.zero_add] at h
 rw [zs_length,fuel_of,h];rfl
theorem specLensOk_l0 (ns:List Nat) (hn:ns.length≤1000000):∀(j i sum:Nat),i+j=ns.length→sum≤32768*i→
  specLensOk.l0 (j+1) (zs ns,(sum:Int),(i:Int))=some (if (ns.drop i).all (fun n=>decide (n≤15)) then .inl (zs ns,((sum+kraft (ns.drop i):Nat):Int)) else .inr false)
 | 0,i,sum,hi,h1=>by
  rw [specLensOk.l0.succ];simp only [specLensOk.l0.step,zs_length]
  rw [idx_ge (by omega),List.drop_eq_nil_of_le (by omega)];rfl
 | j+1,i,sum,hi,h1=>by
  have hlt:i<ns.length:=by omega
  have hd:ns.drop i=ns[i]::ns.drop (i+1):=List.drop_eq_getElem_cons hlt
  have hg:ns.getD i 0=ns[i]:=getD_in hlt
  rw [specLensOk.l0.succ];simp only [specLensOk.l0.step,zs_length]
  rw [idx_lt hlt,cond_true,need_true _ idx_in',Int.toNat_natCast,zs_getD,hg,l1In_eq',hd,List.all_cons]
  simp only [bind_some']
  by_cases h15:ns[i]≤15
  ·have e1:decide ((0:Int)≤(ns[i]:Int)∧(ns[i]:Int)≤15)=true:=by simp;omega
   rw [e1,decide_eq_true h15,Bool.true_and]
   simp only [Bool.not_true,cond_false,c_dec]
   rw [need_true _ idx_in']
   by_cases h0:0<ns[i]
   ·have hp:2^(15-ns[i])≤2^15:=Nat.pow_le_pow_right (by omega) (by omega)
    have hp0:0<2^(15-ns[i]):=Nat.two_pow_pos _
    rw [if_pos (by omega),need_true _ idx_in',w64_id (by omega) (by omega),show 15-(ns[i]:Int)=((15-ns[i]:Nat):Int) by omega,l1Pow_eq _ (by omega)]
    ((try simp (disch:=omega) only [need_and,need_dec,need_decf,need_fits,need_ne,need_t,w64_id,tmod_e,tdiv_e,bind_some',Option.map_some,cond_true,cond_false,Int.sub_zero,Int.toNat_natCast]);(try simp only [c_dec,c_eq,c_ne,c_nodec,c_not,if_true,if_false]))
    rw [show (sum:Int)+((2^(15-ns[i]):Nat):Int)=((sum+2^(15-ns[i]):Nat):Int) by omega,show (i:Int)+1=((i+1:Nat):Int) by omega,
     specLensOk_l0 ns hn j (i+1) _ (by omega) (by omega)]
    simp only [kraft,if_pos h0,Nat.add_assoc]
   ·rw [if_neg (by omega)]
    ((try simp (disch:=omega) only [need_and,need_dec,need_decf,need_fits,need_ne,need_t,w64_id,tmod_e,tdiv_e,bind_some',Option.map_some,cond_true,cond_false,Int.sub_zero,Int.toNat_natCast]);(try simp only [c_dec,c_eq,c_ne,c_nodec,c_not,if_true,if_false]))
    rw [show (i:Int)+1=((i+1:Nat):Int) by omega,specLensOk_l0 ns hn j (i+1) _ (by omega) (by omega)]
    simp only [kraft,if_neg h0,Nat.zero_add]
  ·have e1:decide ((0:Int)≤(ns[i]:Int)∧(ns[i]:Int)≤15)=false:=by simp;omega
   rw [e1,decide_eq_false h15]
   rfl
theorem specLensOk_eq (ns:List Nat) (hn:ns.length≤1000000):specLensOk (zs ns)=some (lensM ns):=by
 unfold specLensOk lensM
 have h:=specLensOk_l0 ns hn ns.length 0 0 (by omega) (by omega)
 rw [show ((0:Nat):Int)=0 from rfl,List.drop_zero,Nat.zero_add] at h
 rw [zs_length,fuel_of,h]
 cases hall:ns.all (fun n=>decide (n≤15)) with
 | false=>rw [Bool.false_and,Bool.and_false];rfl
 | true=>
  simp only [if_true,bind_some',Bool.true_and,l3Used_eq ns hn,zs_length]
  have p14:=l1Pow_eq 14 (by omega)
  have p15:=l1Pow_eq 15 (by omega)
  rw [show ((14:Nat):Int)=14 from rfl] at p14
  rw [show ((15:Nat):Int)=15 from rfl] at p15
  rw [p14,p15]
  simp only [bind_some']
  have one:((bif ((used ns:Nat):Int)==1 then some (((kraft ns:Nat):Int)==((2^14:Nat):Int)) else some false):Option Bool)=some (decide (used ns=1∧kraft ns=16384)):=by
   by_cases hu:used ns=1
   ·have e:(((used ns:Nat):Int)==1)=true:=by simp [hu]
    rw [e,cond_true]
    congr 1
    rw [Bool.eq_iff_iff,beq_iff_eq,decide_eq_true_eq]
    omega
   ·have e:(((used ns:Nat):Int)==1)=false:=by simp;omega
    rw [e];simp [hu]
  rw [one]
  simp only [bind_some']
  by_cases h3:ns.length≤300
  ·have e:decide ((ns.length:Int)≤300)=true:=by simp;omega
   rw [e,cond_true,decide_eq_true h3]
   by_cases hk:kraft ns=32768
   ·have e:(((kraft ns:Nat):Int)==((2^15:Nat):Int))=true:=by simp [hk]
    rw [e,decide_eq_true hk];rfl
   ·have e:(((kraft ns:Nat):Int)==((2^15:Nat):Int))=false:=by rw [beq_eq_false_iff_ne];omega
    rw [e,decide_eq_false hk];rfl
  ·have e:decide ((ns.length:Int)≤300)=false:=by simp;omega
   rw [e,decide_eq_false h3];rfl
end Ev
end
section
namespace Ev
open Go
def base (ns:List Nat):Nat→Nat
 | 0=>0
 | 1=>0
 | l+2=>2*(base ns (l+1)+ns.count (l+1))
def codeM (ns:List Nat) (i:Nat):Nat:=base ns (ns.getD i 0)+(ns.take i).count (ns.getD i 0)
def stage (ns:List Nat) (l i:Nat):List Nat:=(List.range ns.length).map fun j=>if (1≤ns.getD j 0∧ns.getD j 0<l)∨(1≤l∧ns.getD j 0=l∧j<i) then codeM ns j else 0
def codesM (ns:List Nat):List Nat:=stage ns 16 0
theorem base_le1 (ns:List Nat):∀l,base ns (l+1)+2*ns.length≤ns.length*2^(l+1)
 | 0=>by simp [base];omega
 | l+1=>by
  have ih:=base_le1 ns l
  have hc:=List.count_le_length (a:=l+1) (l:=ns)
  have h1:ns.length*2^(l+1+1)=2*(ns.length*2^(l+1)):=by rw [Nat.pow_succ,←Nat.mul_assoc,Nat.mul_comm]
  have e:base ns (l+1+1)=2*(base ns (l+1)+ns.count (l+1)):=rfl
  omega
theorem base_small (ns:List Nat) (hn:ns.length≤1000) (l:Nat) (hl:l≤16):base ns l≤100000000:=by
 cases l with
 | zero=>simp [base]
 | succ l=>
  have h:=base_le1 ns l
  have hp:2^(l+1)≤2^16:=Nat.pow_le_pow_right (by omega) hl
  have:ns.length*2^(l+1)≤1000*2^16:=Nat.mul_le_mul hn hp
  omega
theorem stage_length (ns:List Nat) (l i:Nat):(stage ns l i).length=ns.length:=by simp [stage]
theorem stage_next (ns:List Nat) (l:Nat) (hl:1≤l):stage ns l ns.length=stage ns (l+1) 0:=by
 unfold stage
 apply List.map_congr_left
 intro j hj
 have hj:=List.mem_range.1 hj
 by_cases h:(1≤ns.getD j 0∧ns.getD j 0<l)∨(1≤l∧ns.getD j 0=l∧j<ns.length)
 ·rw [if_pos h,if_pos (by omega)]
 ·rw [if_neg h,if_neg (by omega)]
theorem stage_zero (ns:List Nat):stage ns 1 0=List.replicate ns.length 0:=by
 apply List.ext_getElem
 ·simp [stage]
 ·intro i h1 h2
  simp only [stage,List.getElem_map,List.getElem_range,List.getElem_replicate]
  rw [if_neg (by omega)]
theorem stage_set (ns:List Nat) (l i:Nat) (hl:1≤l) (hi:i<ns.length):stage ns l (i+1)=if ns.getD i 0=l then (stage ns l i).set i (base ns l+(ns.take i).count l) else stage ns l i:=by
 apply List.ext_getElem
 ·split<;>simp [stage]
 ·intro j h1 h2
  have hj:j<ns.length:=by simpa [stage] using h1
  by_cases hc:ns.getD i 0=l
  ·simp only [if_pos hc,List.getElem_set]
   by_cases e:i=j
   ·subst e
    rw [if_pos rfl]
    simp only [stage,List.getElem_map,List.getElem_range]
    rw [if_pos (by omega)]
    unfold codeM;rw [hc]
   ·rw [if_neg e]
    simp only [stage,List.getElem_map,List.getElem_range]
    by_cases h:(1≤ns.getD j 0∧ns.getD j 0<l)∨(1≤l∧ns.getD j 0=l∧j<i)
    ·rw [if_pos h,if_pos (by omega)]
    ·rw [if_neg h,if_neg (by omega)]
  ·simp only [if_neg hc]
   simp only [stage,List.getElem_map,List.getElem_range]
   by_cases h:(1≤ns.getD j 0∧ns.getD j 0<l)∨(1≤l∧ns.getD j 0=l∧j<i)
   ·rw [if_pos h,if_pos (by omega)]
   ·rw [if_neg h]
    by_cases e:j=i
    ·subst e;rw [if_neg (by omega)]
    ·rw [if_neg (by omega)]
theorem count_take_succ (ns:List Nat) (l i:Nat) (hi:i<ns.length):(ns.take (i+1)).count l=(ns.take i).count l+if ns.getD i 0=l then 1 else 0:=by
 rw [List.take_succ_eq_append_getElem hi,List.count_append,getD_in hi]
 by_cases h:ns[i]=l<;>simp [h]
theorem codes_l0 (ns:List Nat) (hn:ns.length≤1000) (l:Nat) (hl:1≤l) (hl15:l≤15):∀(j i:Nat),i+j=ns.length→
  codes.l0 (j+1) (zs ns,((base ns l+(ns.take i).count l:Nat):Int),(l:Int),zs ns,(ns.length:Int),(i:Int),zs (stage ns l i))=some (zs ns,((base ns l+ns.count l:Nat):Int),(l:Int),zs (stage ns (l+1) 0))
 | 0,i,hi=>by
  have:i=ns.length:=by omega
  subst this
  rw [codes.l0.succ];simp only [codes.l0.step,zs_length]
  rw [idx_ge (by omega),List.take_length,stage_next ns l hl];rfl
 | j+1,i,hi=>by
  have hlt:i<ns.length:=by omega
  have ih:=codes_l0 ns hn l hl hl15 j (i+1) (by omega)
  have hb:=base_small ns hn l (by omega)
  have hc:=List.count_le_length (a:=l) (l:=ns.take i)
  rw [List.length_take] at hc
  rw [count_take_succ ns l i hlt,stage_set ns l i hl hlt] at ih
  rw [codes.l0.succ];simp only [codes.l0.step,zs_length,stage_length]
  rw [idx_lt hlt,cond_true,need_true _ idx_in',Int.toNat_natCast,zs_getD]
  ((try simp (disch:=omega) only [need_and,need_dec,need_decf,need_fits,need_ne,need_t,w64_id,tmod_e,tdiv_e,bind_some',Option.map_some,cond_true,cond_false,Int.sub_zero,Int.toNat_natCast]);(try simp only [c_dec,c_eq,c_ne,c_nodec,c_not,if_true,if_false]))
  by_cases h:ns.getD i 0=l
  ·rw [if_pos (by omega),need_true _ idx_in',show (i:Int)+1=((i+1:Nat):Int) by omega,show ((base ns l+(ns.take i).count l:Nat):Int)+1=((base ns l+((ns.take i).count l+1):Nat):Int) by omega,zs_set]
   rw [if_pos h,if_pos h] at ih
   rw [ih]
  ·rw [if_neg (by omega),show (i:Int)+1=((i+1:Nat):Int) by omega]
   rw [if_neg h,if_neg h] at ih
   simp only [Nat.add_zero] at ih
   rw [ih]
theorem codes_l1 (ns:List Nat) (hn:ns.length≤1000):∀(j l:Nat),l+j=16→1≤l→codes.l1 (j+1) (zs ns,((base ns l:Nat):Int),(l:Int),zs (stage ns l 0))=some (zs (codesM ns))
 | 0,l,hl,h1=>by
  have:l=16:=by omega
  subst this
  rw [codes.l1.succ];simp only [codes.l1.step]
  rfl
 | j+1,l,hl,h1=>by
  have ih:=codes_l1 ns hn j (l+1) (by omega) (by omega)
  have h0:=codes_l0 ns hn l h1 (by omega) ns.length 0 (by omega)
  have hb:=base_small ns hn l (by omega)
  have hc:=List.count_le_length (a:=l) (l:=ns)
  rw [List.take_zero,List.count_nil,show ((0:Nat):Int)=0 from rfl] at h0
  simp only [Nat.add_zero] at h0
  rw [codes.l1.succ];simp only [codes.l1.step,zs_length]
  ((try simp (disch:=omega) only [need_and,need_dec,need_decf,need_fits,need_ne,need_t,w64_id,tmod_e,tdiv_e,bind_some',Option.map_some,cond_true,cond_false,Int.sub_zero,Int.toNat_natCast]);(try simp only [c_dec,c_eq,c_ne,c_nodec,c_not,if_true,if_false]))
  rw [if_pos (by omega),h0]
  simp only [bind_some']
  ((try simp (disch:=omega) only [need_and,need_dec,need_decf,need_fits,need_ne,need_t,w64_id,tmod_e,tdiv_e,bind_some',Option.map_some,cond_true,cond_false,Int.sub_zero,Int.toNat_natCast]);(try simp only [c_dec,c_eq,c_ne,c_nodec,c_not,if_true,if_false]))
  have e:base ns (l+1)=2*(base ns l+ns.count l):=by
   cases l with
   | zero=>omega
   | succ l=>rfl
  rw [show ((base ns l+ns.count l:Nat):Int)*2=((base ns (l+1):Nat):Int) by rw [e];omega,show (l:Int)+1=((l+1:Nat):Int) by omega,ih]
theorem codes_eq (ns:List Nat) (hn:ns.length≤1000):codes (zs ns)=some (zs (codesM ns)):=by
 unfold codes
 have h:=codes_l1 ns hn 15 1 (by omega) (by omega)
 rw [stage_zero,←zs_replicate] at h
 rw [zs_length,need_decf (by omega) (by rw [Int.toNat_natCast];omega),Int.toNat_natCast]
 rw [show ((15:Int)-1).toNat+2=15+1 from rfl]
 have e:((base ns 1:Nat):Int)=0:=rfl
 rw [e,show ((1:Nat):Int)=1 from rfl,show ((0:Nat):Int)=0 from rfl] at h
 rw [h];rfl
theorem l3Codes_l0 (ns:List Nat) (hn:ns.length≤1000) (l:Nat) (hl:1≤l) (hl15:l≤15):∀(j i:Nat),i+j=ns.length→
  l3Codes.l0 (j+1) (zs ns,((base ns l+(ns.take i).count l:Nat):Int),(l:Int),(i:Int),zs (stage ns l i))=some (zs ns,((base ns l+ns.count l:Nat):Int),(l:Int),zs (stage ns (l+1) 0))
 | 0,i,hi=>by
  have:i=ns.length:=by omega
  subst this
  rw [l3Codes.l0.succ];simp only [l3Codes.l0.step,zs_length]
  rw [idx_ge (by omega),List.take_length,stage_next ns l hl];rfl
 | j+1,i,hi=>by
  have hlt:i<ns.length:=by omega
  have ih:=l3Codes_l0 ns hn l hl hl15 j (i+1) (by omega)
  have hb:=base_small ns hn l (by omega)
  have hc:=List.count_le_length (a:=l) (l:=ns.take i)
  rw [List.length_take] at hc
  rw [count_take_succ ns l i hlt,stage_set ns l i hl hlt] at ih
  rw [l3Codes.l0.succ];simp only [l3Codes.l0.step,zs_length,stage_length]
  rw [idx_lt hlt,cond_true,need_true _ idx_in',Int.toNat_natCast,zs_getD]
  ((try simp (disch:=omega) only [need_and,need_dec,need_decf,need_fits,need_ne,need_t,w64_id,tmod_e,tdiv_e,bind_some',Option.map_some,cond_true,cond_false,Int.sub_zero,Int.toNat_natCast]);(try simp only [c_dec,c_eq,c_ne,c_nodec,c_not,if_true,if_false]))
  by_cases h:ns.getD i 0=l
  ·rw [if_pos (by omega),need_true _ idx_in',show (i:Int)+1=((i+1:Nat):Int) by omega,show ((base ns l+(ns.take i).count l:Nat):Int)+1=((base ns l+((ns.take i).count l+1):Nat):Int) by omega,zs_set]
   rw [if_pos h,if_pos h] at ih
   rw [ih]
  ·rw [if_neg (by omega),show (i:Int)+1=((i+1:Nat):Int) by omega]
   rw [if_neg h,if_neg h] at ih
   simp only [Nat.add_zero] at ih
   rw [ih]
theorem l3Codes_l1 (ns:List Nat) (hn:ns.length≤1000):∀(j l:Nat),l+j=16→1≤l→l3Codes.l1 (j+1) (zs ns,((base ns l:Nat):Int),(l:Int),zs (stage ns l 0))=some (zs (codesM ns))
 | 0,l,hl,h1=>by
  have:l=16:=by omega
  subst this
  rw [l3Codes.l1.succ];simp only [l3Codes.l1.step]
  rfl
 | j+1,l,hl,h1=>by
  have ih:=l3Codes_l1 ns hn j (l+1) (by omega) (by omega)
  have h0:=l3Codes_l0 ns hn l h1 (by omega) ns.length 0 (by omega)
  have hb:=base_small ns hn l (by omega)
  have hc:=List.count_le_length (a:=l) (l:=ns)
  rw [List.take_zero,List.count_nil,show ((0:Nat):Int)=0 from rfl] at h0
  simp only [Nat.add_zero] at h0
  rw [l3Codes.l1.succ];simp only [l3Codes.l1.step,zs_length]
  ((try simp (disch:=omega) only [need_and,need_dec,need_decf,need_fits,need_ne,need_t,w64_id,tmod_e,tdiv_e,bind_some',Option.map_some,cond_true,cond_false,Int.sub_zero,Int.toNat_natCast]);(try simp only [c_dec,c_eq,c_ne,c_nodec,c_not,if_true,if_false]))
  rw [if_pos (by omega),h0]
  simp only [bind_some']
  ((try simp (disch:=omega) only [need_and,need_dec,need_decf,need_fits,need_ne,need_t,w64_id,tmod_e,tdiv_e,bind_some',Option.map_some,cond_true,cond_false,Int.sub_zero,Int.toNat_natCast]);(try simp only [c_dec,c_eq,c_ne,c_nodec,c_not,if_true,if_false]))
  have e:base ns (l+1)=2*(base ns l+ns.count l):=by
   cases l with
   | zero=>omega
   | succ l=>rfl
  rw [show 2*((base ns l+ns.count l:Nat):Int)=((base ns (l+1):Nat):Int) by rw [e];omega,show (l:Int)+1=((l+1:Nat):Int) by omega,ih]
theorem l3Codes_eq (ns:List Nat) (hn:ns.length≤1000):l3Codes (zs ns)=some (zs (codesM ns)):=by
 unfold l3Codes
 have h:=l3Codes_l1 ns hn 15 1 (by omega) (by omega)
 rw [stage_zero,←zs_replicate] at h
 rw [zs_length,need_decf (by omega) (by rw [Int.toNat_natCast];omega),Int.toNat_natCast]
 rw [show ((15:Int)-1).toNat+2=15+1 from rfl]
 have e:((base ns 1:Nat):Int)=0:=rfl
 rw [e,show ((1:Nat):Int)=1 from rfl,show ((0:Nat):Int)=0 from rfl] at h
 rw [h];rfl
def findB (ns:List Nat) (k c l:Nat):Option Nat:=(List.range k).find? fun i=>decide (0<ns.getD i 0)&&(decide (ns.getD i 0=l)&&decide (codeM ns i=c))
theorem codeM_inj (ns:List Nat) {i j:Nat} (hi:i<ns.length) (hj:j<ns.length) (hl:ns.getD i 0=ns.getD j 0) (hc:codeM ns i=codeM ns j):i=j:=by
 have key:∀{i j:Nat},i<j→j<ns.length→ns.getD i 0=ns.getD j 0→codeM ns i<codeM ns j:=fun {i j} hij hj hl=>by
  unfold codeM
  rw [hl]
  have h1:=count_take_succ ns (ns.getD j 0) i (by omega)
  rw [if_pos hl] at h1
  have h2:(ns.take (i+1)).count (ns.getD j 0)≤(ns.take j).count (ns.getD j 0):=by
   have:ns.take (i+1)=(ns.take j).take (i+1):=by rw [List.take_take,Nat.min_eq_left (by omega)]
   rw [this]
   exact (List.take_sublist _ _).count_le _
  omega
 rcases Nat.lt_trichotomy i j with h | h | h
 ·have:=key h hj hl;omega
 ·exact h
 ·have:=key h hi hl.symm;omega
theorem findB_some {ns:List Nat} {k c l i:Nat} (h:findB ns k c l=some i):i<k∧0<ns.getD i 0∧ns.getD i 0=l∧codeM ns i=c:=by
 unfold findB at h
 have h1:=List.find?_some h
 have h2:=List.mem_of_find?_eq_some h
 simp only [Bool.and_eq_true,decide_eq_true_eq] at h1
 exact ⟨List.mem_range.1 h2,h1⟩
theorem findB_of {ns:List Nat} {k i:Nat} (hk:k≤ns.length) (hi:i<k) (h0:0<ns.getD i 0):findB ns k (codeM ns i) (ns.getD i 0)=some i:=by
 cases h:findB ns k (codeM ns i) (ns.getD i 0) with
 | none=>
  unfold findB at h
  have:=List.find?_eq_none.1 h i (List.mem_range.2 hi)
  exact absurd (by simp only [Bool.and_eq_true,decide_eq_true_eq];exact ⟨h0,trivial,trivial⟩) this
 | some j=>
  obtain ⟨h1,h2,h3,h4⟩:=findB_some h
  rw [codeM_inj ns (by omega) (by omega) h3 h4]
theorem findB_succ (ns:List Nat) (k c l:Nat) (hk:k<ns.length):findB ns (k+1) c l=if 0<ns.getD k 0∧ns.getD k 0=l∧codeM ns k=c then some k else findB ns k c l:=by
 by_cases h:0<ns.getD k 0∧ns.getD k 0=l∧codeM ns k=c
 ·rw [if_pos h]
  obtain ⟨h1,rfl,rfl⟩:=h
  exact findB_of (by omega) (by omega) h1
 ·rw [if_neg h]
  unfold findB
  rw [List.range_succ,List.find?_append]
  have:List.find? (fun i=>decide (0<ns.getD i 0)&&(decide (ns.getD i 0=l)&&decide (codeM ns i=c))) [k]=none:=by
   rw [List.find?_cons]
   have:(decide (0<ns.getD k 0)&&(decide (ns.getD k 0=l)&&decide (codeM ns k=c)))=false:=by
    rw [Bool.eq_false_iff];intro hh;simp only [Bool.and_eq_true,decide_eq_true_eq] at hh;exact h hh
   rw [this];rfl
  rw [this]
  cases List.find? (fun i=>decide (0<ns.getD i 0)&&(decide (ns.getD i 0=l)&&decide (codeM ns i=c))) (List.range k)<;>rfl
def BookP (ns:List Nat) (k:Nat) (es:List ((Int×Int)×Int)):Prop:=∀c l:Nat,mapGet [.int .i64,.int .i64] [.int .i64] es ((c:Int),(l:Int))=(findB ns k c l).map fun (n:Nat)=>(n:Int)
theorem mapGet_set (es:List ((Int×Int)×Int)) (k k':Int×Int) (v:Int):mapGet [.int .i64,.int .i64] [.int .i64] (mapSet [.int .i64,.int .i64] [.int .i64] es k v) k'=if k'=k then some v else mapGet [.int .i64,.int .i64] [.int .i64] es k':=by
 have eqb:∀a b:Int×Int,El.eqb [.int .i64,.int .i64] a b=decide (a=b):=fun a b=>by
  rw [Bool.eq_iff_iff]
  simp only [El.eqb,Sc.eqb,Bool.and_true,Bool.and_eq_true,beq_iff_eq,decide_eq_true_eq]
  exact ⟨fun h=>Prod.ext h.1 h.2,fun h=>by rw [h];exact ⟨rfl,rfl⟩⟩
 induction es with
 | nil=>
  simp only [mapSet,mapGet,eqb]
  by_cases h:k'=k<;>simp [h]
 | cons e r ih=>
  simp only [mapSet,eqb]
  by_cases h1:k=e.1
  ·rw [decide_eq_true h1,cond_true]
   simp only [mapGet,eqb]
   by_cases h:k'=k
   ·simp [h]
   ·have:¬k'=e.1:=fun x=>h (x.trans h1.symm)
    simp [h,this]
  ·rw [decide_eq_false h1,cond_false]
   simp only [mapGet,eqb]
   by_cases h:k'=e.1
   ·have:¬k'=k:=fun x=>h1 (x.symm.trans h)
    rw [decide_eq_true h,cond_true,cond_true,if_neg this]
   ·rw [decide_eq_false h,cond_false,cond_false];exact ih
end Ev
end
section
namespace Ev
open Go
theorem codesM_length (ns:List Nat):(codesM ns).length=ns.length:=stage_length ns 16 0
theorem codesM_get (ns:List Nat) (h15:∀n∈ns,n≤15) (i:Nat) (hi:i<ns.length) (h0:0<ns.getD i 0):(codesM ns).getD i 0=codeM ns i:=by
 have hm:ns.getD i 0≤15:=by rw [getD_in hi];exact h15 _ (List.getElem_mem hi)
 rw [getD_in (by rw [codesM_length];exact hi)]
 simp only [codesM,stage,List.getElem_map,List.getElem_range]
 rw [if_pos (by omega)]
theorem bookOf_l0 (ns:List Nat) (hn:ns.length≤1000) (h15:∀n∈ns,n≤15):∀(j i:Nat) (es:List ((Int×Int)×Int)),i+j=ns.length→BookP ns i es→
  Ret (bookOf.l0 (j+1) (zs ns,(ns.length:Int),(i:Int),es,zs (codesM ns))) (BookP ns ns.length)
 | 0,i,es,hi,h=>by
  have:i=ns.length:=by omega
  subst this
  rw [bookOf.l0.succ];simp only [bookOf.l0.step]
  rw [idx_ge (by omega)];exact .pure h
 | j+1,i,es,hi,h=>by
  have hlt:i<ns.length:=by omega
  have hm:ns.getD i 0≤15:=by rw [getD_in hlt];exact h15 _ (List.getElem_mem hlt)
  rw [bookOf.l0.succ];simp only [bookOf.l0.step,zs_length,codesM_length]
  rw [idx_lt hlt,cond_true,need_true _ idx_in',need_true _ idx_in',Int.toNat_natCast,zs_getD,zs_getD]
  ((try simp (disch:=omega) only [need_and,need_dec,need_decf,need_fits,need_ne,need_t,w64_id,tmod_e,tdiv_e,bind_some',Option.map_some,cond_true,cond_false,Int.sub_zero,Int.toNat_natCast]);(try simp only [c_dec,c_eq,c_ne,c_nodec,c_not,if_true,if_false]))
  by_cases h0:0<ns.getD i 0
  ·rw [if_pos (by omega),need_true _ idx_in',show (i:Int)+1=((i+1:Nat):Int) by omega,codesM_get ns h15 i hlt h0]
   refine bookOf_l0 ns hn h15 j (i+1) _ (by omega) fun c l=>?_
   rw [mapGet_set,h c l,findB_succ ns i c l hlt]
   by_cases hc:0<ns.getD i 0∧ns.getD i 0=l∧codeM ns i=c
   ·rw [if_pos hc,if_pos (by obtain ⟨_,rfl,rfl⟩:=hc;rfl)];rfl
   ·rw [if_neg hc,if_neg (fun e=>hc ⟨h0,by have e2:(l:Int)=((ns.getD i 0:Nat):Int):=(Prod.mk.inj e).2;omega,by have e1:(c:Int)=((codeM ns i:Nat):Int):=(Prod.mk.inj e).1;omega⟩)]
  ·rw [if_neg (by omega),show (i:Int)+1=((i+1:Nat):Int) by omega]
   refine bookOf_l0 ns hn h15 j (i+1) _ (by omega) fun c l=>?_
   rw [h c l,findB_succ ns i c l hlt,if_neg (fun e=>h0 e.1)]
theorem bookOf_ret (ns:List Nat) (hn:ns.length≤1000) (h15:∀n∈ns,n≤15):Ret (bookOf (zs ns)) (BookP ns ns.length):=by
 unfold bookOf
 rw [codes_eq ns hn]
 simp only [bind_some',zs_length,codesM_length]
 rw [fuel_of]
 refine .bind (bookOf_l0 ns hn h15 ns.length 0 [] (by omega) fun c l=>?_) fun a ha=>.pure ha
 simp [mapGet,findB]
def symGo (ns:List Nat):Nat→Nat→Nat→List Bool→Option (Nat×List Bool)
 | 0,_,_,_=>none
 | _+1,_,_,[]=>none
 | f+1,l,c,b::r=>match findB ns ns.length (2*c+b.toNat) l with
  | some i=>some (i,r)
  | none=>symGo ns f (l+1) (2*c+b.toNat) r
def mSym (ns:List Nat) (m:Option (List Bool)):Option (Nat×List Bool):=m.bind (symGo ns 15 1 0)
def SymPost (s:Str) (x:Option (Nat×List Bool)) (v at_:Int) (bad:Bool):Prop:=match x with
 | some (i,l)=>v=(i:Int)∧Rs s at_ bad (some l)
 | none=>v=0∧Rs s at_ bad none
theorem rSymbol_l0 {s:Str} (hs:s.length≤1000000000) (ns:List Nat) (book:List ((Int×Int)×Int)) (hB:BookP ns ns.length book):∀(f l c:Nat) (at_:Int) (bad:Bool) (m:Option (List Bool)),l+f=16→c<2^l→Rs s at_ bad m→
  Ret (rSymbol.l0 (f+1) ((c:Int),(l:Int),s,at_,bad,book)) fun r=>match m.bind (symGo ns f l c) with
   | some (i,l')=>∃a,r=.inr ((i:Int),s,a,false,book)∧Rs s a false (some l')
   | none=>∃a b,r=.inl (s,a,b,book)∧∃m',Rs s a b m'
 | 0,l,c,at_,bad,m,hf,hc,h=>by
  rw [rSymbol.l0.succ];simp only [rSymbol.l0.step]
  ((try simp (disch:=omega) only [need_and,need_dec,need_decf,need_fits,need_ne,need_t,w64_id,tmod_e,tdiv_e,bind_some',Option.map_some,cond_true,cond_false,Int.sub_zero,Int.toNat_natCast]);(try simp only [c_dec,c_eq,c_ne,c_nodec,c_not,if_true,if_false]))
  rw [if_neg (by omega)]
  have:m.bind (symGo ns 0 l c)=none:=by cases m<;>rfl
  rw [this]
  exact .pure ⟨at_,bad,rfl,_,h⟩
 | f+1,l,c,at_,bad,m,hf,hc,h=>by
  have hp:2^l≤2^15:=Nat.pow_le_pow_right (by omega) (by omega)
  rw [rSymbol.l0.succ];simp only [rSymbol.l0.step]
  ((try simp (disch:=omega) only [need_and,need_dec,need_decf,need_fits,need_ne,need_t,w64_id,tmod_e,tdiv_e,bind_some',Option.map_some,cond_true,cond_false,Int.sub_zero,Int.toNat_natCast]);(try simp only [c_dec,c_eq,c_ne,c_nodec,c_not,if_true,if_false]))
  rw [if_pos (by omega)]
  refine .bind (rBit_st hs h) ?_
  rintro ⟨r,s',at',bad'⟩ ⟨rfl,b,rfl,h2,h3⟩
  dsimp only at h2 h3 ⊢
  have hb:b.toNat≤1:=by cases b<;>decide
  ((try simp (disch:=omega) only [need_and,need_dec,need_decf,need_fits,need_ne,need_t,w64_id,tmod_e,tdiv_e,bind_some',Option.map_some,cond_true,cond_false,Int.sub_zero,Int.toNat_natCast]);(try simp only [c_dec,c_eq,c_ne,c_nodec,c_not,if_true,if_false]))
  rw [show 2*(c:Int)+((b.toNat:Nat):Int)=((2*c+b.toNat:Nat):Int) by omega,show (l:Int)+1=((l+1:Nat):Int) by omega,hB _ _]
  have go:∀m2,Rs s' at' bad' m2→Ret (rSymbol.l0 (f+1) (((2*c+b.toNat:Nat):Int),((l+1:Nat):Int),s',at',bad',book)) fun r=>match m2.bind (symGo ns f (l+1) (2*c+b.toNat)) with
   | some (i,l')=>∃a,r=.inr ((i:Int),s',a,false,book)∧Rs s' a false (some l')
   | none=>∃a b,r=.inl (s',a,b,book)∧∃m',Rs s' a b m':=fun m2 h4=>rSymbol_l0 hs ns book hB f (l+1) _ at' bad' m2 (by omega) (by rw [Nat.pow_succ];omega) h4
  have fail:Rs s' at' bad' none→m.bind (symGo ns (f+1) l c)=none→Ret (((if ((findB ns ns.length (2*c+b.toNat) l).map fun (n:Nat)=>(n:Int)).isSome=true then some (!bad') else some false).bind fun c_1=>
    bif c_1 then some (Sum.inr (((findB ns ns.length (2*c+b.toNat) l).map fun (n:Nat)=>(n:Int)).getD 0,s',at',bad',book)) else rSymbol.l0 (f+1) (((2*c+b.toNat:Nat):Int),((l+1:Nat):Int),s',at',bad',book))) fun r=>match m.bind (symGo ns (f+1) l c) with
   | some (i,l')=>∃a,r=.inr ((i:Int),s',a,false,book)∧Rs s' a false (some l')
   | none=>∃a b,r=.inl (s',a,b,book)∧∃m',Rs s' a b m':=fun h4 e=>by
   rw [e]
   have hbad:bad'=true:=h4.1
   have e2:(if ((findB ns ns.length (2*c+b.toNat) l).map fun (n:Nat)=>(n:Int)).isSome=true then some (!bad') else some false)=some false:=by
    rw [hbad];split<;>rfl
   rw [e2]
   simp only [bind_some',cond_false]
   exact go none h4
  have hform:∀(x:Option Int) (y z:Option (((Str×Int×Bool×List ((Int×Int)×Int))⊕(Int×Str×Int×Bool×List ((Int×Int)×Int))))),((bif x.isSome then some (!bad') else some false).bind fun c_1=>bif c_1 then y else z)=((if x.isSome=true then some (!bad') else some false).bind fun c_1=>bif c_1 then y else z):=fun x y z=>by cases x<;>rfl
  rw [hform]
  cases m with
  | none=>exact fail h2 rfl
  | some lst=>
   cases lst with
   | nil=>exact fail h2 rfl
   | cons b' l0=>
    have hbb:=h3 b' l0 rfl
    subst hbb
    have hbad:bad'=false:=h2.1
    subst hbad
    simp only [Option.bind_some,symGo]
    cases hfi:findB ns ns.length (2*c+b.toNat) l with
    | some i=>
     simp only [Option.map_some,Option.isSome_some,if_true,bind_some',Bool.not_false,cond_true,Option.getD_some]
     exact .pure ⟨at',rfl,h2⟩
    | none=>
     simp only [Option.map_none,Option.isSome_none,bind_some',cond_false,Bool.false_eq_true,if_false]
     exact go (some l0) h2
theorem rSymbol_st {s:Str} {at_:Int} {bad:Bool} {m:Option (List Bool)} (hs:s.length≤1000000000) (ns:List Nat) {book:List ((Int×Int)×Int)} (hB:BookP ns ns.length book) (h:Rs s at_ bad m) :
  Ret (rSymbol s at_ bad book) fun r=>r.2.1=s∧r.2.2.2.2=book∧SymPost s (mSym ns m) r.1 r.2.2.1 r.2.2.2.1:=by
 unfold rSymbol
 have h0:=rSymbol_l0 hs ns book hB 15 1 0 at_ bad m (by omega) (by omega) h
 rw [show ((15:Int)-1).toNat+2=15+1 from rfl]
 refine .bind h0 fun r hr=>?_
 unfold mSym
 cases hm:m.bind (symGo ns 15 1 0) with
 | none=>
  rw [hm] at hr
  obtain ⟨a,b,rfl,m',h'⟩:=hr
  exact .pure ⟨rfl,rfl,rfl,h'.fail⟩
 | some x=>
  obtain ⟨i,l'⟩:=x
  rw [hm] at hr
  obtain ⟨a,rfl,h'⟩:=hr
  exact .pure ⟨rfl,rfl,rfl,h'⟩
theorem sSymbol_l0 (s:Str) (at_:Int) (bad:Bool) (ns:List Nat) (hn:ns.length≤1000) (h15:∀n∈ns,n≤15) (c l:Nat) (hl:1≤l):∀(j i:Nat),i+j=ns.length→findB ns i c l=none→
  sSymbol.l0 (j+1) (zs ns,zs (codesM ns),(c:Int),(l:Int),(i:Int),s,at_,bad)=some (match findB ns ns.length c l with
   | some k=>.inr (.inr ((k:Int),s,at_,bad))
   | none=>.inl (zs ns,zs (codesM ns),(c:Int),(l:Int),s,at_,bad))
 | 0,i,hi,h=>by
  have:i=ns.length:=by omega
  subst this
  rw [sSymbol.l0.succ];simp only [sSymbol.l0.step,zs_length]
  rw [idx_ge (by omega),h];rfl
 | j+1,i,hi,h=>by
  have hlt:i<ns.length:=by omega
  rw [sSymbol.l0.succ];simp only [sSymbol.l0.step,zs_length,codesM_length]
  rw [idx_lt hlt,cond_true,need_true _ idx_in',need_true _ idx_in',Int.toNat_natCast,zs_getD,zs_getD]
  by_cases hc:0<ns.getD i 0∧ns.getD i 0=l∧codeM ns i=c
  ·have hfull:findB ns ns.length c l=some i:=by
    obtain ⟨h1,rfl,rfl⟩:=hc
    exact findB_of (Nat.le_refl _) hlt h1
   obtain ⟨h1,h2,h3⟩:=hc
   have e1:(((ns.getD i 0:Nat):Int)==(l:Int))=true:=by rw [beq_iff_eq];omega
   have e2:((((codesM ns).getD i 0:Nat):Int)==(c:Int))=true:=by rw [codesM_get ns h15 i hlt h1,beq_iff_eq];omega
   rw [e1,e2,hfull]
   simp only [cond_true,bind_some',Option.map_some]
  ·have hnext:findB ns (i+1) c l=none:=by rw [findB_succ ns i c l hlt,if_neg hc];exact h
   have ih:=sSymbol_l0 s at_ bad ns hn h15 c l hl j (i+1) (by omega) hnext
   have e:(bif (((ns.getD i 0:Nat):Int)==(l:Int)) then (some ((((codesM ns).getD i 0:Nat):Int)==(c:Int))) else some false)=some false:=by
    by_cases h2:ns.getD i 0=l
    ·have e1:(((ns.getD i 0:Nat):Int)==(l:Int))=true:=by rw [beq_iff_eq];omega
     have e2:((((codesM ns).getD i 0:Nat):Int)==(c:Int))=false:=by
      rw [codesM_get ns h15 i hlt (by omega),beq_eq_false_iff_ne]
      intro h3;exact hc ⟨by omega,h2,by omega⟩
     rw [e1,e2];rfl
    ·have e1:(((ns.getD i 0:Nat):Int)==(l:Int))=false:=by rw [beq_eq_false_iff_ne];omega
     rw [e1];rfl
   rw [e]
   simp only [bind_some',cond_false]
   rw [idx_next (by omega),ih]
def SymPostS (s:Str) (n:Nat) (x:Option (Nat×List Bool)) (v at_:Int) (bad:Bool):Prop:=match x with
 | some (i,l)=>v=(i:Int)∧Rs s at_ bad (some l)
 | none=>-1≤v∧v<n∧Rs s at_ bad none
theorem sSymbol_l1 {s:Str} (hs:s.length≤1000000000) (ns:List Nat) (hn:ns.length≤1000) (h15:∀n∈ns,n≤15):∀(f l c:Nat) (at_:Int) (bad:Bool) (m:Option (List Bool)),l+f=16→1≤l→c<2^l→Rs s at_ bad m→
  Ret (sSymbol.l1 (f+1) (zs ns,zs (codesM ns),(c:Int),(l:Int),s,at_,bad)) fun r=>match m.bind (symGo ns f l c) with
   | some (i,l')=>∃a,r=.inr ((i:Int),s,a,false)∧Rs s a false (some l')
   | none=>(∃a b,r=.inl (s,a,b)∧∃m',Rs s a b m')∨(∃k a,k<ns.length∧r=.inr ((k:Int),s,a,true)∧Rs s a true none)
 | 0,l,c,at_,bad,m,hf,h1,hc,h=>by
  rw [sSymbol.l1.succ];simp only [sSymbol.l1.step]
  ((try simp (disch:=omega) only [need_and,need_dec,need_decf,need_fits,need_ne,need_t,w64_id,tmod_e,tdiv_e,bind_some',Option.map_some,cond_true,cond_false,Int.sub_zero,Int.toNat_natCast]);(try simp only [c_dec,c_eq,c_ne,c_nodec,c_not,if_true,if_false]))
  rw [if_neg (by omega)]
  have:m.bind (symGo ns 0 l c)=none:=by cases m<;>rfl
  rw [this]
  exact .pure (.inl ⟨at_,bad,rfl,_,h⟩)
 | f+1,l,c,at_,bad,m,hf,h1,hc,h=>by
  have hp:2^l≤2^15:=Nat.pow_le_pow_right (by omega) (by omega)
  rw [sSymbol.l1.succ];simp only [sSymbol.l1.step,zs_length]
  ((try simp (disch:=omega) only [need_and,need_dec,need_decf,need_fits,need_ne,need_t,w64_id,tmod_e,tdiv_e,bind_some',Option.map_some,cond_true,cond_false,Int.sub_zero,Int.toNat_natCast]);(try simp only [c_dec,c_eq,c_ne,c_nodec,c_not,if_true,if_false]))
  rw [if_pos (by omega)]
  simp only [bind_some']
  cases bad with
  | true=>
   have hm:m=none:=by cases m with
    | none=>rfl
    | some l=>exact absurd h.1 (by simp)
   subst hm
   exact .pure (.inl ⟨at_,true,rfl,_,h⟩)
  | false=>
  simp only [Bool.not_false,cond_true]
  refine .bind (sBit_st hs h) ?_
  rintro ⟨r,s',at',bad'⟩ ⟨rfl,b,rfl,h2,h3⟩
  dsimp only at h2 h3 ⊢
  have hb:b.toNat≤1:=by cases b<;>decide
  ((try simp (disch:=omega) only [need_and,need_dec,need_decf,need_fits,need_ne,need_t,w64_id,tmod_e,tdiv_e,bind_some',Option.map_some,cond_true,cond_false,Int.sub_zero,Int.toNat_natCast]);(try simp only [c_dec,c_eq,c_ne,c_nodec,c_not,if_true,if_false]))
  have h0:=sSymbol_l0 s' at' bad' ns hn h15 (2*c+b.toNat) l h1 ns.length 0 (by omega) (by simp [findB])
  rw [show ((0:Nat):Int)=0 from rfl] at h0
  rw [show 2*(c:Int)+((b.toNat:Nat):Int)=((2*c+b.toNat:Nat):Int) by omega,h0]
  simp only [bind_some']
  have go:∀m2,Rs s' at' bad' m2→Ret (sSymbol.l1 (f+1) (zs ns,zs (codesM ns),((2*c+b.toNat:Nat):Int),((l+1:Nat):Int),s',at',bad')) fun r=>match m2.bind (symGo ns f (l+1) (2*c+b.toNat)) with
   | some (i,l')=>∃a,r=.inr ((i:Int),s',a,false)∧Rs s' a false (some l')
   | none=>(∃a b,r=.inl (s',a,b)∧∃m',Rs s' a b m')∨(∃k a,k<ns.length∧r=.inr ((k:Int),s',a,true)∧Rs s' a true none):=fun m2 h4=>sSymbol_l1 hs ns hn h15 f (l+1) _ at' bad' m2 (by omega) (by omega) (by rw [Nat.pow_succ];omega) h4
  have hfail:Rs s' at' bad' none→m.bind (symGo ns (f+1) l c)=none→Ret (match (match findB ns ns.length (2*c+b.toNat) l with
     | some k=>(Sum.inr (Sum.inr ((k:Int),s',at',bad')):(List Int×List Int×Int×Int×Str×Int×Bool)⊕((Str×Int×Bool)⊕(Int×Str×Int×Bool)))
     | none=>.inl (zs ns,zs (codesM ns),((2*c+b.toNat:Nat):Int),(l:Int),s',at',bad')) with
    | .inl (lens3,codes_3,code_2,n2,o6,o7,o8)=>sSymbol.l1 (f+1) (lens3,codes_3,code_2,w64 (n2+1),o6,o7,o8)
    | .inr r=>some r) fun r=>match m.bind (symGo ns (f+1) l c) with
   | some (i,l')=>∃a,r=.inr ((i:Int),s',a,false)∧Rs s' a false (some l')
   | none=>(∃a b,r=.inl (s',a,b)∧∃m',Rs s' a b m')∨(∃k a,k<ns.length∧r=.inr ((k:Int),s',a,true)∧Rs s' a true none):=fun h4 e=>by
   rw [e]
   have hbad:bad'=true:=h4.1
   subst hbad
   cases hfi:findB ns ns.length (2*c+b.toNat) l with
   | some k=>exact .pure (.inr ⟨k,at',(findB_some hfi).1,rfl,h4⟩)
   | none=>
    dsimp only
    rw [idx_next (by omega)]
    exact go none h4
  cases m with
  | none=>exact absurd h.1 (by simp)
  | some lst=>
   cases lst with
   | nil=>exact hfail h2 rfl
   | cons b' l0=>
    have hbb:=h3 b' l0 rfl
    subst hbb
    have hbad:bad'=false:=h2.1
    subst hbad
    simp only [Option.bind_some,symGo]
    cases hfi:findB ns ns.length (2*c+b.toNat) l with
    | some i=>exact .pure ⟨at',rfl,h2⟩
    | none=>
     dsimp only
     rw [idx_next (by omega)]
     exact go (some l0) h2
theorem sSymbol_st {s:Str} {at_:Int} {bad:Bool} {m:Option (List Bool)} (hs:s.length≤1000000000) (ns:List Nat) (hn:ns.length≤1000) (h15:∀n∈ns,n≤15) (h:Rs s at_ bad m) :
  Ret (sSymbol (zs ns) (zs (codesM ns)) s at_ bad) fun r=>r.2.1=s∧SymPostS s ns.length (mSym ns m) r.1 r.2.2.1 r.2.2.2:=by
 unfold sSymbol
 have h0:=sSymbol_l1 hs ns hn h15 15 1 0 at_ bad m (by omega) (by omega) (by omega) h
 rw [show ((15:Int)-1).toNat+2=15+1 from rfl]
 refine .bind h0 fun r hr=>?_
 unfold mSym
 cases hm:m.bind (symGo ns 15 1 0) with
 | none=>
  rw [hm] at hr
  rcases hr with ⟨a,b,rfl,m',h'⟩ | ⟨k,a,hk,rfl,h'⟩
  ·exact Ret.pure ⟨rfl,by dsimp only;omega,by dsimp only;omega,h'.fail⟩
  ·exact Ret.pure ⟨rfl,by dsimp only;omega,by dsimp only;omega,h'⟩
 | some x=>
  obtain ⟨i,l'⟩:=x
  rw [hm] at hr
  obtain ⟨a,rfl,h'⟩:=hr
  exact .pure ⟨rfl,rfl,h'⟩
end Ev
end
section
namespace Ev
open Go
def krU (L:Nat):List Nat→Nat
 | []=>0
 | n::r=>(if 0<n∧n≤L then 2^(15-n) else 0)+krU L r
theorem krU_le (L:Nat):∀ns,krU L ns≤kraft ns
 | []=>Nat.le_refl _
 | n::r=>by
  have:=krU_le L r
  simp only [krU,kraft]
  by_cases h:0<n∧n≤L
  ·rw [if_pos h,if_pos h.1];omega
  ·have:=Nat.two_pow_pos (15-n);rw [if_neg h];split<;>omega
theorem krU_succ (L:Nat):∀ns:List Nat,krU (L+1) ns=krU L ns+ns.count (L+1)*2^(15-(L+1))
 | []=>by simp [krU]
 | n::r=>by
  have ih:=krU_succ L r
  simp only [krU,List.count_cons,ih]
  by_cases h:n=L+1
  ·subst h
   rw [if_pos (by omega),if_neg (by omega)]
   simp only [beq_self_eq_true,if_true,Nat.add_mul,Nat.one_mul];omega
  ·have hb:(n==L+1)=false:=by simp [h]
   rw [hb]
   simp only [Bool.false_eq_true,if_false,Nat.add_zero]
   by_cases h2:0<n∧n≤L
   ·rw [if_pos h2,if_pos (by omega)];omega
   ·rw [if_neg h2,if_neg (by omega)];omega
theorem krU_zero:∀ns:List Nat,krU 0 ns=0
 | []=>rfl
 | n::r=>by simp only [krU,krU_zero r];rw [if_neg (by omega)]
theorem base_kr (ns:List Nat):∀L,L+1≤15→(base ns (L+1)+ns.count (L+1))*2^(15-(L+1))=krU (L+1) ns
 | 0,_=>by
  rw [krU_succ,krU_zero];simp [base]
 | L+1,h=>by
  have ih:=base_kr ns L (by omega)
  rw [krU_succ,←ih]
  have e:base ns (L+1+1)=2*(base ns (L+1)+ns.count (L+1)):=rfl
  rw [e,Nat.add_mul,Nat.mul_comm 2,Nat.mul_assoc]
  congr 2
  rw [show 15-(L+1)=(15-(L+1+1))+1 by omega,Nat.pow_succ,Nat.mul_comm]
theorem base_room (ns:List Nat) (hk:kraft ns≤32768) (L:Nat) (h1:1≤L) (h15:L≤15):base ns L+ns.count L≤2^L:=by
 obtain ⟨l,rfl⟩:∃l,L=l+1:=⟨L-1,by omega⟩
 have h:=base_kr ns l h15
 have h2:=krU_le (l+1) ns
 have:(base ns (l+1)+ns.count (l+1))*2^(15-(l+1))≤2^(l+1)*2^(15-(l+1)):=by
  rw [h,←Nat.pow_add,show l+1+(15-(l+1))=15 by omega]
  omega
 exact Nat.le_of_mul_le_mul_right this (Nat.two_pow_pos _)
theorem count_take_lt (ns:List Nat) (i:Nat) (hi:i<ns.length):(ns.take i).count (ns.getD i 0)<ns.count (ns.getD i 0):=by
 have h:=count_take_succ ns (ns.getD i 0) i hi
 rw [if_pos rfl] at h
 have:(ns.take (i+1)).count (ns.getD i 0)≤ns.count (ns.getD i 0):=(List.take_sublist _ _).count_le _
 omega
theorem codeM_top (ns:List Nat) (i:Nat) (hi:i<ns.length):codeM ns i<base ns (ns.getD i 0)+ns.count (ns.getD i 0):=by
 have:=count_take_lt ns i hi
 unfold codeM;omega
theorem codeM_lt (ns:List Nat) (hk:kraft ns≤32768) (h15:∀n∈ns,n≤15) (i:Nat) (hi:i<ns.length) (h0:0<ns.getD i 0):codeM ns i<2^(ns.getD i 0):=by
 have hm:ns.getD i 0≤15:=by rw [getD_in hi];exact h15 _ (List.getElem_mem hi)
 have h1:=codeM_top ns i hi
 have h2:=base_room ns hk _ h0 hm
 omega
def symB (ns:List Nat) (i:Nat):List Bool:=msb ((codesM ns).getD i 0) (ns.getD i 0)
theorem codesM_lt (ns:List Nat) (hk:kraft ns≤32768) (h15:∀n∈ns,n≤15) (i:Nat) (hi:i<ns.length):(codesM ns).getD i 0<2^(ns.getD i 0):=by
 by_cases h0:0<ns.getD i 0
 ·rw [codesM_get ns h15 i hi h0];exact codeM_lt ns hk h15 i hi h0
 ·have e:(codesM ns).getD i 0=0:=by
   rw [getD_in (by rw [codesM_length];exact hi)]
   simp only [codesM,stage,List.getElem_map,List.getElem_range]
   rw [if_neg (by omega)]
  rw [e];exact Nat.two_pow_pos _
theorem wCode_eq (ns:List Nat) (hk:kraft ns≤32768) (h15:∀n∈ns,n≤15) (i:Nat) (hi:i<ns.length) (l:List Bool) (hl:l.length≤80000000) :
  wCode (zs ns) (zs (codesM ns)) (i:Int) (l.length:Int) (pack l)=some ((((l++symB ns i).length:Nat):Int),pack (l++symB ns i)):=by
 have hm:ns.getD i 0≤15:=by rw [getD_in hi];exact h15 _ (List.getElem_mem hi)
 have hlt:=codesM_lt ns hk h15 i hi
 have hp:2^(ns.getD i 0)≤2^15:=Nat.pow_le_pow_right (by omega) hm
 have ht:=turn_lt ((codesM ns).getD i 0) (ns.getD i 0)
 unfold wCode
 rw [zs_length,zs_length,codesM_length,need_true _ (idx_in hi),need_true _ (idx_in hi),Int.toNat_natCast,zs_getD,zs_getD,bitsTurn_eq _ _ (by omega) hlt]
 simp only [bind_some']
 rw [need_true _ (idx_in hi),wPut_eq _ _ (by omega) (by omega) l (by omega),numB_turn]
 rfl
theorem oSym_eq (ns:List Nat) (hk:kraft ns≤32768) (h15:∀n∈ns,n≤15) (i:Nat) (hi:i<ns.length) (l:List Bool) (hl:l.length≤80000000) :
  oSym (zs ns) (zs (codesM ns)) (i:Int) (oL l:Int) ((l.length%8:Nat):Int) (oT l)=some ((oL (l++symB ns i):Int),(((l++symB ns i).length%8:Nat):Int),oT (l++symB ns i)):=by
 have hm:ns.getD i 0≤15:=by rw [getD_in hi];exact h15 _ (List.getElem_mem hi)
 have hlt:=codesM_lt ns hk h15 i hi
 have hp:2^(ns.getD i 0)≤2^15:=Nat.pow_le_pow_right (by omega) hm
 have ht:=turn_lt ((codesM ns).getD i 0) (ns.getD i 0)
 unfold oSym l3Piece
 rw [zs_length,zs_length,codesM_length,need_true _ (idx_in hi),need_true _ (idx_in hi),Int.toNat_natCast,zs_getD,zs_getD,l1Turn_eq _ _ (by omega) (by omega)]
 simp only [bind_some']
 rw [need_true _ (idx_in hi)]
 simp only [bind_some']
 rw [oPut_eq _ _ (by omega) (by omega) l (by omega),numB_turn]
 rfl
end Ev
end
section
namespace Ev
open Go
def copyM (k:Nat):Nat→List Int→List Int
 | 0,out=>out
 | n+1,out=>copyM k n (out++[out.getD (out.length-k) 0])
def farM (out:List Int) (l k:Nat):Option (List Int):=if l≤60∧k≤250∧k≤out.length then some (copyM k l out) else none
theorem copyM_length (k:Nat):∀n out,(copyM k n out).length=out.length+n
 | 0,out=>rfl
 | n+1,out=>by rw [copyM,copyM_length k n];simp;omega
theorem add_l0 (b:Int) (l k:Nat) (hk:1≤k) (hl:l≤1000):∀(j i:Nat) (out:List Int),i+j=l→k≤out.length→out.length+j≤1000000→
  add.l0 (j+1) ((l:Int),(i:Int),out,b,(l:Int),(k:Int))=some (copyM k j out)
 | 0,i,out,hi,h1,h2=>by
  rw [add.l0.succ];simp only [add.l0.step]
  rw [idx_ge (by omega)];rfl
 | j+1,i,out,hi,h1,h2=>by
  rw [add.l0.succ];simp only [add.l0.step]
  rw [idx_lt (by omega),cond_true,w64_id (n:=(out.length:Int)-k) (by omega) (by omega),show (out.length:Int)-k=((out.length-k:Nat):Int) by omega,
   need_true _ (idx_in (by omega)),Int.toNat_natCast,need_fits (by simp;omega),w64_id (by omega) (by omega),show (i:Int)+1=((i+1:Nat):Int) by omega,
   add_l0 b l k hk hl j (i+1) _ (by omega) (by simp;omega) (by simp;omega)]
  rfl
theorem l4Add_l0 (b:Int) (l k:Nat) (hk:1≤k) (hl:l≤1000):∀(j i:Nat) (out:List Int),i+j=l→k≤out.length→out.length+j≤1000000→
  l4Add.l0 (j+1) ((i:Int),out,b,(l:Int),(k:Int))=some (copyM k j out)
 | 0,i,out,hi,h1,h2=>by
  rw [l4Add.l0.succ];simp only [l4Add.l0.step]
  rw [idx_ge (by omega)];rfl
 | j+1,i,out,hi,h1,h2=>by
  rw [l4Add.l0.succ];simp only [l4Add.l0.step]
  rw [idx_lt (by omega),cond_true,w64_id (n:=(out.length:Int)-k) (by omega) (by omega),show (out.length:Int)-k=((out.length-k:Nat):Int) by omega,
   need_true _ (idx_in (by omega)),Int.toNat_natCast,need_fits (by simp;omega),w64_id (by omega) (by omega),show (i:Int)+1=((i+1:Nat):Int) by omega,
   l4Add_l0 b l k hk hl j (i+1) _ (by omega) (by simp;omega) (by simp;omega)]
  rfl
theorem minA_nat (a b:Nat):minA (a:Int) (b:Int)=((min a b:Nat):Int):=by
 unfold minA
 by_cases h:(b:Int)<(a:Int)
 ·rw [if_pos h];omega
 ·rw [if_neg h];omega
theorem add_far (l k:Nat) (out:List Int) (hl:3≤l) (hk:1≤k) (ho:out.length≤100000) :
  add 0 (l:Int) (k:Int) out=some ((farM out l k).isSome,(farM out l k).getD []):=by
 unfold add farM
 rw [show (250:Int)=((250:Nat):Int) from rfl,minA_nat]
 simp only [within_eq',bind_some']
 rw [show (((l:Nat):Int)==0)=false by simp;omega,show ((0:Int) != 0)=false from rfl]
 simp only [cond_false]
 by_cases h60:l≤60
 ·rw [show decide ((3:Int)≤(l:Int)∧(l:Int)≤60)=true by simp;omega]
  simp only [Bool.not_true,cond_false,bind_some']
  by_cases hb:k≤250∧k≤out.length
  ·rw [show decide ((1:Int)≤(k:Int)∧(k:Int)≤((min 250 out.length:Nat):Int))=true by simp;omega,if_pos ⟨h60,hb⟩]
   simp only [Bool.not_true,cond_false]
   rw [Int.sub_zero,Int.toNat_natCast]
   have:=add_l0 0 l k hk (by omega) l 0 out (by omega) hb.2 (by omega)
   rw [show ((0:Nat):Int)=0 from rfl] at this
   rw [this];rfl
  ·rw [show decide ((1:Int)≤(k:Int)∧(k:Int)≤((min 250 out.length:Nat):Int))=false by simp;omega,if_neg (fun e=>hb e.2)]
   rfl
 ·rw [show decide ((3:Int)≤(l:Int)∧(l:Int)≤60)=false by simp;omega,if_neg (fun e=>h60 e.1)]
  rfl
theorem l4Add_far (l k:Nat) (out:List Int) (hl:3≤l) (hk:1≤k) (ho:out.length≤100000) :
  l4Add 0 (l:Int) (k:Int) out=some ((farM out l k).isSome,(farM out l k).getD out):=by
 unfold l4Add farM
 simp only [l1In_eq',bind_some']
 rw [show (((l:Nat):Int)==0)=false by simp;omega,show ((0:Int) != 0)=false from rfl]
 simp only [cond_false]
 by_cases h60:l≤60
 ·rw [show decide ((3:Int)≤(l:Int)∧(l:Int)≤60)=true by simp;omega]
  simp only [Bool.not_true,cond_false,bind_some']
  by_cases h2:k≤250
  ·rw [show decide ((1:Int)≤(k:Int)∧(k:Int)≤250)=true by simp;omega]
   simp only [Bool.not_true,cond_false,bind_some']
   by_cases hb:k≤out.length
   ·rw [show decide ((k:Int)>(out.length:Int))=false by simp;omega,if_pos ⟨h60,h2,hb⟩]
    simp only [cond_false]
    rw [Int.sub_zero,Int.toNat_natCast]
    have:=l4Add_l0 0 l k hk (by omega) l 0 out (by omega) hb (by omega)
    rw [show ((0:Nat):Int)=0 from rfl] at this
    rw [this];rfl
   ·rw [show decide ((k:Int)>(out.length:Int))=true by simp;omega,if_neg (fun e=>hb e.2.2)];rfl
  ·rw [show decide ((1:Int)≤(k:Int)∧(k:Int)≤250)=false by simp;omega,if_neg (fun e=>h2 e.2.1)];rfl
 ·rw [show decide ((3:Int)≤(l:Int)∧(l:Int)≤60)=false by simp;omega,if_neg (fun e=>h60 e.1)];rfl
inductive Tk where
 | lit (c:Nat)
 | far (l k:Nat)
def Tk.z:Tk→Int×Int×Int
 | .lit c=>((c:Int),0,0)
 | .far l k=>(0,(l:Int),(k:Int))
def agM (s:Str) (a k:Nat):Nat→Nat→Nat
 | 0,n=>n
 | f+1,n=>if a+n<s.length∧n<60∧s.getD (a+n) 0=s.getD (a+n-k) 0 then agM s a k f (n+1) else n
def bestM (s:Str) (a:Nat):Nat→Nat×Nat
 | 0=>(0,0)
 | m+1=>if (bestM s a m).1<agM s a (m+1) 60 0 then (agM s a (m+1) 60 0,m+1) else bestM s a m
def tokM (s:Str) (a:Nat):Tk:=if (bestM s a (min 250 a)).1<3 then .lit (s.getD a 0).toNat else .far (bestM s a (min 250 a)).1 (bestM s a (min 250 a)).2
def Tk.long:Tk→Nat
 | .lit _=>1
 | .far l _=>l
def toksM (s:Str):Nat→Nat→List Tk
 | 0,_=>[]
 | f+1,a=>if a<s.length then tokM s a::toksM s f (a+(tokM s a).long) else []
theorem agM_le (s:Str) (a k:Nat):∀f n,n≤60→n≤agM s a k f n∧agM s a k f n≤60
 | 0,n,h=>⟨Nat.le_refl _,h⟩
 | f+1,n,h=>by
  rw [agM]
  by_cases c:a+n<s.length∧n<60∧s.getD (a+n) 0=s.getD (a+n-k) 0
  ·rw [if_pos c];have:=agM_le s a k f (n+1) (by omega);omega
  ·rw [if_neg c];omega
theorem agM_same (s:Str) (a k:Nat):∀f n i,n≤i→i<agM s a k f n→a+i<s.length∧s.getD (a+i) 0=s.getD (a+i-k) 0
 | 0,n,i,h1,h2=>by simp only [agM] at h2;omega
 | f+1,n,i,h1,h2=>by
  rw [agM] at h2
  by_cases c:a+n<s.length∧n<60∧s.getD (a+n) 0=s.getD (a+n-k) 0
  ·rw [if_pos c] at h2
   by_cases e:i=n
   ·subst e;exact ⟨c.1,c.2.2⟩
   ·exact agM_same s a k f (n+1) i (by omega) h2
  ·rw [if_neg c] at h2;omega
theorem bestM_spec (s:Str) (a:Nat):∀m,(bestM s a m).1≤60∧(bestM s a m).2≤m∧(0<(bestM s a m).1→1≤(bestM s a m).2∧(bestM s a m).1=agM s a (bestM s a m).2 60 0)
 | 0=>by simp [bestM]
 | m+1=>by
  have ih:=bestM_spec s a m
  have hl:=agM_le s a (m+1) 60 0 (by omega)
  rw [bestM]
  by_cases c:(bestM s a m).1<agM s a (m+1) 60 0
  ·rw [if_pos c];exact ⟨hl.2,Nat.le_refl _,fun _=>⟨Nat.le_add_left _ _,rfl⟩⟩
  ·rw [if_neg c];exact ⟨ih.1,by omega,ih.2.2⟩
theorem u8_eq (x y:UInt8):(((x.toNat:Int))==((y.toNat:Int)))=decide (x=y):=by
 by_cases h:x=y
 ·subst h;simp
 ·have:x.toNat≠y.toNat:=fun e=>h (UInt8.toNat_inj.1 e)
  rw [decide_eq_false h];simp;omega
theorem again_test {α:Type} (s:Str) (hs:s.length≤1000) (a k n:Nat) (ha:a≤1000) (hk:k≤a) (hn:n<60) (x y:Option α) :
  ((bif decide (w64 ((a:Int)+(n:Int))<(s.length:Int)) then (need (decide (0≤(w64 ((a:Int)+(n:Int))))&&decide ((w64 ((a:Int)+(n:Int)))<s.length)) (need (decide (0≤(w64 ((w64 ((a:Int)+(n:Int)))-(k:Int))))&&decide ((w64 ((w64 ((a:Int)+(n:Int)))-(k:Int)))<s.length)) (some (((s.getD (w64 ((a:Int)+(n:Int))).toNat 0).toNat:Int)==((s.getD (w64 ((w64 ((a:Int)+(n:Int)))-(k:Int))).toNat 0).toNat:Int))))) else
 (some false)).bind fun c=>bif c then x else y)=if a+n<s.length∧n<60∧s.getD (a+n) 0=s.getD (a+n-k) 0 then x else y:=by
 have e1:w64 ((a:Int)+(n:Int))=((a+n:Nat):Int):=by rw [w64_id]<;>omega
 have e2:w64 (((a+n:Nat):Int)-(k:Int))=((a+n-k:Nat):Int):=by rw [w64_id]<;>omega
 rw [e1,e2]
 by_cases h1:a+n<s.length
 ·rw [need_true _ (idx_in h1),need_true _ (idx_in (by omega)),decide_eq_true (show (((a+n:Nat):Int)<(s.length:Int)) by omega),Int.toNat_natCast,Int.toNat_natCast,u8_eq,cond_true]
  simp only [bind_some',c_dec]
  by_cases h2:s.getD (a+n) 0=s.getD (a+n-k) 0
  ·rw [if_pos h2,if_pos ⟨h1,hn,h2⟩]
  ·rw [if_neg h2,if_neg (fun e=>h2 e.2.2)]
 ·rw [if_neg (fun e=>h1 e.1),decide_eq_false (show ¬(((a+n:Nat):Int)<(s.length:Int)) by omega)];rfl
theorem l4Again_l0 (s:Str) (hs:s.length≤1000) (a k:Nat) (ha:a≤1000) (hk:k≤a):∀(j f n:Nat),n+j=60→j≤f→l4Again.l0 (f+1) (s,(a:Int),(k:Int),(n:Int))=some (agM s a k j n:Int)
 | 0,f,n,h,hf=>by
  rw [l4Again.l0.succ];simp only [l4Again.l0.step,agM]
  have hn:n=60:=by omega
  subst hn
  rw [show decide (((60:Nat):Int)<60)=false by decide]
  simp only [cond_false]
  cases decide (w64 ((a:Int)+((60:Nat):Int))<(s.length:Int))<;>rfl
 | j+1,0,n,h,hf=>by omega
 | j+1,f+1,n,h,hf=>by
  rw [l4Again.l0.succ];simp only [l4Again.l0.step]
  rw [agM,decide_eq_true (show ((n:Int)<60) by omega),cond_true,again_test s hs a k n ha hk (by omega),w64_id (by omega) (by omega),show (n:Int)+1=((n+1:Nat):Int) by omega,
   l4Again_l0 s hs a k ha hk j f (n+1) (by omega) (by omega)]
  split<;>rfl
theorem l4Again_eq (s:Str) (hs:s.length≤1000) (a k:Nat) (ha:a≤1000) (hk:k≤a):l4Again s (a:Int) (k:Int)=some (agM s a k 60 0:Int):=by
 unfold l4Again
 have h:=l4Again_l0 s hs a k ha hk 60 61 0 rfl (by omega)
 rw [show ((0:Nat):Int)=0 from rfl] at h
 rw [h];rfl
theorem tokensOf_l0 (s:Str) (hs:s.length≤1000) (a k:Nat) (ha:a≤1000) (hk:k≤a) (out:List (Int×Int×Int)) (o3 o4 o5:Int):∀(j n:Nat),n+j=60→
  tokensOf.l0 (j+1) (s,(a:Int),(k:Int),(n:Int),out,o3,o4,o5)=some (s,(a:Int),(k:Int),(agM s a k j n:Int),out,o3,o4,o5)
 | 0,n,h=>by
  rw [tokensOf.l0.succ];simp only [tokensOf.l0.step,agM]
  have hn:n=60:=by omega
  subst hn
  rfl
 | j+1,n,h=>by
  rw [tokensOf.l0.succ];simp only [tokensOf.l0.step]
  rw [agM,decide_eq_true (show ((n:Int)<60) by omega),cond_true,again_test s hs a k n ha hk (by omega),w64_id (by omega) (by omega),show (n:Int)+1=((n+1:Nat):Int) by omega,
   tokensOf_l0 s hs a k ha hk out o3 o4 o5 j (n+1) (by omega)]
  split<;>rfl
def bestZ (c:Int) (b:Nat×Nat):Int×Int×Int:=if b.1<3 then (c,0,0) else (0,(b.1:Int),(b.2:Int))
theorem bestZ_next (c:Int) (b:Nat×Nat) (n k:Nat):(bestZ c (if b.1<n then (n,k) else b))=if 3≤n∧(bestZ c b).2.1<(n:Int) then (0,(n:Int),(k:Int)) else bestZ c b:=by
 unfold bestZ
 by_cases h1:b.1<n<;>by_cases h2:b.1<3<;>by_cases h3:n<3 <;>
  simp only [h1,h2,h3,if_true,if_false]<;>(first | (exfalso;omega) | (rw [if_pos (by simp;omega)]) | (rw [if_neg (by simp;omega)]) | rfl)
theorem tokensOf_l1 (s:Str) (hs:s.length≤1000) (a:Nat) (ha:a≤1000) (out:List (Int×Int×Int)) (c:Int):∀(j m:Nat),m+j=min 250 a→∀(b:Int×Int×Int),b=bestZ c (bestM s a m)→
  tokensOf.l1 (j+1) (s,(a:Int),((m+1:Nat):Int),out,b)=some (s,(a:Int),out,bestZ c (bestM s a (min 250 a)))
 | 0,m,h,(b1,b2,b3),hb=>by
  have hm:m=min 250 a:=by omega
  subst hm
  rw [tokensOf.l1.succ];simp only [tokensOf.l1.step]
  rw [show (250:Int)=((250:Nat):Int) from rfl,minA_nat,decide_eq_false (by omega),hb];rfl
 | j+1,m,h,(b1,b2,b3),hb=>by
  rw [tokensOf.l1.succ];simp only [tokensOf.l1.step]
  have h0:=tokensOf_l0 s hs a (m+1) ha (by omega) out b1 b2 b3 60 0 (by omega)
  rw [show ((0:Nat):Int)=0 from rfl] at h0
  rw [show (250:Int)=((250:Nat):Int) from rfl,minA_nat,decide_eq_true (by omega),cond_true,show ((60:Int)-0).toNat=60 from rfl,h0]
  have ha2:=agM_le s a (m+1) 60 0 (by omega)
  simp only [bind_some']
  rw [w64_id (by omega) (by omega),show ((m+1:Nat):Int)+1=((m+1+1:Nat):Int) by omega]
  have hn:=bestZ_next c (bestM s a m) (agM s a (m+1) 60 0) (m+1)
  have e:bestM s a (m+1)=if (bestM s a m).1<agM s a (m+1) 60 0 then (agM s a (m+1) 60 0,m+1) else bestM s a m:=rfl
  rw [←e,←hb] at hn
  dsimp only at hn
  by_cases h3:3≤agM s a (m+1) 60 0
  ·rw [show decide (((agM s a (m+1) 60 0:Nat):Int)≥3)=true by simp;omega]
   simp only [cond_true,bind_some',c_dec]
   by_cases h4:b2<((agM s a (m+1) 60 0:Nat):Int)
   ·rw [if_pos ⟨h3,h4⟩] at hn
    rw [if_pos (show ((agM s a (m+1) 60 0:Nat):Int)>b2 from h4)]
    exact tokensOf_l1 s hs a ha out c j (m+1) (by omega) _ hn.symm
   ·rw [if_neg (fun e=>h4 e.2)] at hn
    rw [if_neg (show ¬((agM s a (m+1) 60 0:Nat):Int)>b2 from h4)]
    exact tokensOf_l1 s hs a ha out c j (m+1) (by omega) _ hn.symm
  ·rw [show decide (((agM s a (m+1) 60 0:Nat):Int)≥3)=false by simp;omega]
   rw [if_neg (fun e=>h3 e.1)] at hn
   simp only [cond_false,bind_some']
   exact tokensOf_l1 s hs a ha out c j (m+1) (by omega) _ hn.symm
theorem bestZ_tok (s:Str) (a:Nat):bestZ ((s.getD a 0).toNat:Int) (bestM s a (min 250 a))=(tokM s a).z:=by
 unfold bestZ tokM
 split<;>rfl
theorem maxA_one (x:Int) (h:1≤x):maxA x 1=x:=by
 unfold maxA;split<;>omega
theorem tokM_long (s:Str) (a:Nat):1≤(tokM s a).long∧(tokM s a).long≤60∧maxA (tokM s a).z.2.1 1=((tokM s a).long:Int):=by
 have h:=bestM_spec s a (min 250 a)
 unfold tokM
 by_cases c:(bestM s a (min 250 a)).1<3
 ·rw [if_pos c];exact ⟨Nat.le_refl _,by simp [Tk.long],by simp [Tk.z,Tk.long,maxA]⟩
 ·rw [if_neg c]
  exact ⟨by simp only [Tk.long];omega,h.1,maxA_one _ (by simp only [Tk.z];omega)⟩
theorem tokensOf_l2 (s:Str) (hs:s.length≤300):∀(j a:Nat),s.length≤a+j→a≤600→∀out:List (Int×Int×Int),out.length≤a→
  tokensOf.l2 (j+1) (s,(a:Int),out)=some (out++(toksM s j a).map Tk.z)
 | 0,a,h,ha,out,ho=>by
  rw [tokensOf.l2.succ];simp only [tokensOf.l2.step]
  rw [idx_ge (by omega)];simp [toksM]
 | j+1,a,h,ha,out,ho=>by
  rw [tokensOf.l2.succ];simp only [tokensOf.l2.step]
  by_cases hlt:a<s.length
  ·have h1:=tokensOf_l1 s (by omega) a (by omega) out ((s.getD a 0).toNat:Int) (min 250 a) 0 (by omega) (((s.getD a 0).toNat:Int),0,0) (by simp [bestZ,bestM])
   rw [show ((0+1:Nat):Int)=1 from rfl] at h1
   have hb:(s.getD a 0).toNat<256:=UInt8.toNat_lt _
   have hm:((minA 250 (a:Int))-1).toNat+2=min 250 a+1∨(min 250 a=0∧((minA 250 (a:Int))-1).toNat+2=2):=by
    rw [show (250:Int)=((250:Nat):Int) from rfl,minA_nat];omega
   rw [idx_lt hlt,cond_true,need_true _ idx_in',Int.toNat_natCast,w64_id (n:=((s.getD a 0).toNat:Int)) (by omega) (by omega)]
   have h1':tokensOf.l1 (((minA 250 (a:Int))-1).toNat+2) (s,(a:Int),1,out,((s.getD a 0).toNat:Int),0,0)=some (s,(a:Int),out,(tokM s a).z):=by
    rw [←bestZ_tok]
    rcases hm with e | ⟨e0,e⟩
    ·rw [e];exact h1
    ·rw [e]
     have a0:a=0:=by omega
     subst a0
     rfl
   rw [h1']
   obtain ⟨t1,t2,t3⟩:=tokM_long s a
   rcases hz:(tokM s a).z with ⟨z1,z2,z3⟩
   rw [hz] at t3
   simp only [bind_some']
   dsimp only at t3
   rw [need_fits (by simp;omega),t3,w64_id (by omega) (by omega),show (a:Int)+((tokM s a).long:Int)=((a+(tokM s a).long:Nat):Int) by omega,
    tokensOf_l2 s hs j (a+(tokM s a).long) (by omega) (by omega) _ (by simp;omega)]
   rw [toksM,if_pos hlt,List.map_cons,hz];simp
  ·rw [idx_ge (by omega),toksM,if_neg hlt];simp
def toks (s:Str):List Tk:=toksM s s.length 0
theorem tokensOf_eq (s:Str) (hs:s.length≤300):tokensOf s=some ((toks s).map Tk.z):=by
 unfold tokensOf
 rw [decide_eq_false (by omega),cond_false,fuel_of]
 have h:=tokensOf_l2 s hs s.length 0 (by omega) (by omega) [] (by simp)
 rw [show ((0:Nat):Int)=0 from rfl] at h
 rw [h];simp [toks]
theorem l4Tokens_l0 (s:Str) (hs:s.length≤1000) (a:Nat) (ha:a≤1000) (out:List (Int×Int×Int)):∀(j f m:Nat),m+j=min 250 a→j≤f→∀(l k:Int),l=((bestM s a m).1:Int)→k=((bestM s a m).2:Int)→
  l4Tokens.l0 (f+1) (s,(a:Int),l,k,((m+1:Nat):Int),out)=some (s,(a:Int),((bestM s a (min 250 a)).1:Int),((bestM s a (min 250 a)).2:Int),out)
 | 0,f,m,h,hf,l,k,hl,hk=>by
  have hm:m=min 250 a:=by omega
  rw [l4Tokens.l0.succ];simp only [l4Tokens.l0.step]
  subst hl hk
  by_cases h1:m+1≤250
  ·rw [decide_eq_true (show (((m+1:Nat):Int)≤250) by omega),decide_eq_false (show ¬(((m+1:Nat):Int)≤(a:Int)) by omega),hm];rfl
  ·rw [decide_eq_false (show ¬(((m+1:Nat):Int)≤250) by omega),hm];rfl
 | j+1,0,m,h,hf,l,k,hl,hk=>by omega
 | j+1,f+1,m,h,hf,l,k,hl,hk=>by
  rw [l4Tokens.l0.succ];simp only [l4Tokens.l0.step]
  rw [decide_eq_true (show (((m+1:Nat):Int)≤250) by omega),decide_eq_true (show (((m+1:Nat):Int)≤(a:Int)) by omega)]
  simp only [cond_true,bind_some']
  rw [l4Again_eq s hs a (m+1) ha (by omega)]
  simp only [bind_some',c_dec]
  rw [w64_id (by omega) (by omega),show ((m+1:Nat):Int)+1=((m+1+1:Nat):Int) by omega]
  have e:bestM s a (m+1)=if (bestM s a m).1<agM s a (m+1) 60 0 then (agM s a (m+1) 60 0,m+1) else bestM s a m:=rfl
  subst hl hk
  by_cases c:(bestM s a m).1<agM s a (m+1) 60 0
  ·rw [if_pos (by omega)]
   rw [if_pos c] at e
   exact l4Tokens_l0 s hs a ha out j f (m+1) (by omega) (by omega) _ _ (by rw [e]) (by rw [e])
  ·rw [if_neg (by omega)]
   rw [if_neg c] at e
   exact l4Tokens_l0 s hs a ha out j f (m+1) (by omega) (by omega) _ _ (by rw [e]) (by rw [e])
theorem l4Tokens_l1 (s:Str) (hs:s.length≤300):∀(j a:Nat),s.length≤a+j→a≤600→∀out:List (Int×Int×Int),out.length≤a→
  l4Tokens.l1 (j+1) (s,(a:Int),out)=some (out++(toksM s j a).map Tk.z)
 | 0,a,h,ha,out,ho=>by
  rw [l4Tokens.l1.succ];simp only [l4Tokens.l1.step]
  rw [idx_ge (by omega)];simp [toksM]
 | j+1,a,h,ha,out,ho=>by
  rw [l4Tokens.l1.succ];simp only [l4Tokens.l1.step]
  by_cases hlt:a<s.length
  ·have h1:=l4Tokens_l0 s (by omega) a (by omega) out (min 250 a) 250 0 (by omega) (by omega) 0 0 (by simp [bestM]) (by simp [bestM])
   rw [show ((0+1:Nat):Int)=1 from rfl] at h1
   have hb:(s.getD a 0).toNat<256:=UInt8.toNat_lt _
   obtain ⟨t1,t2,t3⟩:=tokM_long s a
   rw [idx_lt hlt,cond_true,show ((250:Int)-1).toNat+2=251 from rfl,h1]
   simp only [bind_some',c_dec]
   rw [toksM,if_pos hlt,List.map_cons]
   by_cases c:(bestM s a (min 250 a)).1<3
   ·have et:tokM s a=.lit (s.getD a 0).toNat:=by unfold tokM;rw [if_pos c]
    rw [if_pos (by omega),need_true _ (idx_in hlt),need_fits (by simp;omega),Int.toNat_natCast,w64_id (n:=((s.getD a 0).toNat:Int)) (by omega) (by omega),w64_id (by omega) (by omega),
     show (a:Int)+1=((a+1:Nat):Int) by omega,l4Tokens_l1 s hs j (a+1) (by omega) (by omega) _ (by simp;omega),et]
    simp [Tk.z,Tk.long]
   ·have et:tokM s a=.far (bestM s a (min 250 a)).1 (bestM s a (min 250 a)).2:=by unfold tokM;rw [if_neg c]
    rw [et] at t1 t2
    simp only [Tk.long] at t1 t2
    rw [if_neg (by omega),need_fits (by simp;omega),w64_id (by omega) (by omega),
     show (a:Int)+((bestM s a (min 250 a)).1:Int)=((a+(bestM s a (min 250 a)).1:Nat):Int) by omega,l4Tokens_l1 s hs j (a+(bestM s a (min 250 a)).1) (by omega) (by omega) _ (by simp;omega),et]
    simp [Tk.z,Tk.long]
  ·rw [idx_ge (by omega),toksM,if_neg hlt];simp
theorem l4Tokens_eq (s:Str) (hs:s.length≤300):l4Tokens s=some ((toks s).map Tk.z):=by
 unfold l4Tokens
 rw [fuel_of]
 have h:=l4Tokens_l1 s hs s.length 0 (by omega) (by omega) [] (by simp)
 rw [show ((0:Nat):Int)=0 from rfl] at h
 rw [h];simp [toks]
end Ev
end
section
namespace Ev
open Go
def ints (s:Str):List Int:=s.map fun c=>(c.toNat:Int)
theorem ints_length (s:Str):(ints s).length=s.length:=by simp [ints]
theorem ints_getD (s:Str) (i:Nat):(ints s).getD i 0=((s.getD i 0).toNat:Int):=by
 by_cases h:i<s.length
 ·rw [getD_in (by rw [ints_length];exact h),getD_in h];simp [ints]
 ·simp [ints,List.getD,Nat.le_of_not_lt h]
theorem ints_append (s t:Str):ints (s++t)=ints s++ints t:=by simp [ints]
theorem take_succ' {α:Type} (s:List α) (n:Nat) (d:α) (h:n<s.length):s.take (n+1)=s.take n++[s.getD n d]:=by
 rw [List.take_succ_eq_append_getElem h,getD_in h]
theorem take_getD {α:Type} (s:List α) (n i:Nat) (d:α) (h:i<n):(s.take n).getD i d=s.getD i d:=by
 simp [List.getD,List.getElem?_take,h]
theorem copy_take (s:Str) (a l k:Nat) (hk:1≤k) (hka:k≤a) (h:∀i,i<l→a+i<s.length∧s.getD (a+i) 0=s.getD (a+i-k) 0):∀(j i:Nat),i+j=l→
  copyM k j (ints (s.take (a+i)))=ints (s.take (a+l))
 | 0,i,hi=>by rw [show i=l by omega];rfl
 | j+1,i,hi=>by
  obtain ⟨h1,h2⟩:=h i (by omega)
  rw [copyM,ints_length,List.length_take,Nat.min_eq_left (by omega),ints_getD,take_getD _ _ _ _ (by omega),←h2]
  have e:ints (s.take (a+i))++[((s.getD (a+i) 0).toNat:Int)]=ints (s.take (a+(i+1))):=by
   rw [←Nat.add_assoc,take_succ' s (a+i) 0 h1,ints_append];rfl
  rw [e]
  exact copy_take s a l k hk hka h j (i+1) (by omega)
theorem tokM_lit {s:Str} {a c:Nat} (h:tokM s a=.lit c):c=(s.getD a 0).toNat:=by
 unfold tokM at h
 split at h
 ·exact (Tk.lit.inj h).symm
 ·cases h
theorem tokM_far {s:Str} {a l k:Nat} (h:tokM s a=.far l k) (ha:a≤s.length):3≤l∧l≤60∧1≤k∧k≤250∧a+l≤s.length∧farM (ints (s.take a)) l k=some (ints (s.take (a+l))):=by
 have hb:=bestM_spec s a (min 250 a)
 unfold tokM at h
 by_cases c:(bestM s a (min 250 a)).1<3
 ·rw [if_pos c] at h;cases h
 ·rw [if_neg c] at h
  obtain ⟨rfl,rfl⟩:=Tk.far.inj h
  obtain ⟨h1,h2,h3⟩:=hb
  obtain ⟨h4,h5⟩:=h3 (by omega)
  have hs:∀i,i<(bestM s a (min 250 a)).1→a+i<s.length∧s.getD (a+i) 0=s.getD (a+i-(bestM s a (min 250 a)).2) 0:=fun i hi=>
   agM_same s a (bestM s a (min 250 a)).2 60 0 i (Nat.zero_le _) (by rw [←h5];exact hi)
  have hlast:=(hs ((bestM s a (min 250 a)).1-1) (by omega)).1
  refine ⟨by omega,h1,h4,by omega,by omega,?_⟩
  unfold farM
  rw [ints_length,List.length_take,Nat.min_eq_left ha,if_pos ⟨h1,by omega,by omega⟩]
  have:=copy_take s a _ _ h4 (by omega) hs (bestM s a (min 250 a)).1 0 (by omega)
  rw [Nat.add_zero] at this
  rw [this]
def longB:List Nat:=[0,0,0,0,0,0,0,0,1,1,1,1,2,2,2,2,3,3,3,3,4,4,4,4,5,5,5,5]
def longF:List Nat:=[3,4,5,6,7,8,9,10,11,13,15,17,19,23,27,31,35,43,51,59,67,83,99,115,131,163,195,227]
def backB:List Nat:=[0,0,0,0,1,1,2,2,3,3,4,4,5,5,6,6,7,7,8,8,9,9,10,10,11,11,12,12,13,13]
def backF:List Nat:=[1,2,3,4,5,7,9,13,17,25,33,49,65,97,129,193,257,385,513,769,1025,1537,2049,3073,4097,6145,8193,12289,16385,24577]
theorem longsOf_eq:longsOf=some (zs longF,zs longB):=by kernel_rfl
theorem backsOf_eq:backsOf=some (zs backF,zs backB):=by kernel_rfl
theorem l5LongBits_eq:l5LongBits=some (zs longB):=by kernel_rfl
theorem l5BackBits_eq:l5BackBits=some (zs backB):=by kernel_rfl
theorem l5Base_long:l5Base (zs longB) 3=some (zs longF):=by kernel_rfl
theorem l5Base_back:l5Base (zs backB) 1=some (zs backF):=by kernel_rfl
def fixL:List Nat:=List.replicate 144 8++List.replicate 112 9++List.replicate 24 7++List.replicate 8 8
def fixD:List Nat:=List.replicate 32 5
theorem fixedLens_eq:fixedLens=some (zs fixL,zs fixD):=by kernel_rfl
theorem l5Fixed_eq:l5Fixed=some (zs fixL):=by kernel_rfl
theorem l5Fives_eq:l5Fives=some (zs fixD):=by kernel_rfl
def symF (F:List Nat) (n:Nat):Nat:=(F.filter fun x=>decide (x≤n)).length-1
def chkL:Bool:=(List.range 58).all fun i=>
 (ladFind (zs longF) (zs longB) ((i+3:Nat):Int)==some ((symF longF (i+3):Nat):Int))&&(l5Sym (zs longF) ((i+3:Nat):Int)==some ((symF longF (i+3):Nat):Int))&&
 decide (symF longF (i+3)<28)&&decide (longF.getD (symF longF (i+3)) 0≤i+3)&&decide (i+3-longF.getD (symF longF (i+3)) 0<2^longB.getD (symF longF (i+3)) 0)
def chkD:Bool:=(List.range 250).all fun i=>
 (ladFind (zs backF) (zs backB) ((i+1:Nat):Int)==some ((symF backF (i+1):Nat):Int))&&(l5Sym (zs backF) ((i+1:Nat):Int)==some ((symF backF (i+1):Nat):Int))&&
 decide (symF backF (i+1)<30)&&decide (backF.getD (symF backF (i+1)) 0≤i+1)&&decide (i+1-backF.getD (symF backF (i+1)) 0<2^backB.getD (symF backF (i+1)) 0)
theorem chkL_ok:chkL=true:=by kernel_rfl
theorem chkD_ok:chkD=true:=by kernel_rfl
theorem sym_long (n:Nat) (h1:3≤n) (h2:n≤60):ladFind (zs longF) (zs longB) (n:Int)=some ((symF longF n:Nat):Int)∧l5Sym (zs longF) (n:Int)=some ((symF longF n:Nat):Int)∧
  symF longF n<28∧longF.getD (symF longF n) 0≤n∧n-longF.getD (symF longF n) 0<2^longB.getD (symF longF n) 0:=by
 have h:=List.all_eq_true.1 chkL_ok (n-3) (List.mem_range.2 (by omega))
 rw [show n-3+3=n by omega] at h
 simp only [Bool.and_eq_true,beq_iff_eq,decide_eq_true_eq] at h
 exact ⟨h.1.1.1.1,h.1.1.1.2,h.1.1.2,h.1.2,h.2⟩
theorem sym_back (n:Nat) (h1:1≤n) (h2:n≤250):ladFind (zs backF) (zs backB) (n:Int)=some ((symF backF n:Nat):Int)∧l5Sym (zs backF) (n:Int)=some ((symF backF n:Nat):Int)∧
  symF backF n<30∧backF.getD (symF backF n) 0≤n∧n-backF.getD (symF backF n) 0<2^backB.getD (symF backF n) 0:=by
 have h:=List.all_eq_true.1 chkD_ok (n-1) (List.mem_range.2 (by omega))
 rw [show n-1+1=n by omega] at h
 simp only [Bool.and_eq_true,beq_iff_eq,decide_eq_true_eq] at h
 exact ⟨h.1.1.1.1,h.1.1.1.2,h.1.1.2,h.1.2,h.2⟩
theorem longB_le (k:Nat):longB.getD k 0≤5:=by
 by_cases h:k<28
 ·have:(List.range 28).all (fun k=>decide (longB.getD k 0≤5))=true:=by decide
  simpa using List.all_eq_true.1 this k (List.mem_range.2 h)
 ·simp [List.getD,show longB.length=28 from rfl,Nat.le_of_not_lt h]
theorem backB_le (k:Nat):backB.getD k 0≤13:=by
 by_cases h:k<30
 ·have:(List.range 30).all (fun k=>decide (backB.getD k 0≤13))=true:=by decide
  simpa using List.all_eq_true.1 this k (List.mem_range.2 h)
 ·simp [List.getD,show backB.length=30 from rfl,Nat.le_of_not_lt h]
def Tk.Ok:Tk→Prop
 | .lit c=>c<256
 | .far l k=>3≤l∧l≤60∧1≤k∧k≤250
theorem toksM_ok (s:Str):∀f a,a≤s.length→∀t∈toksM s f a,t.Ok
 | 0,a,ha,t,h=>by simp [toksM] at h
 | f+1,a,ha,t,h=>by
  rw [toksM] at h
  by_cases hlt:a<s.length
  ·rw [if_pos hlt] at h
   cases hk:tokM s a with
   | lit c=>
    rw [hk] at h
    rcases List.mem_cons.1 h with rfl | h
    ·rw [tokM_lit hk];exact UInt8.toNat_lt _
    ·exact toksM_ok s f (a+1) (by omega) t h
   | far l k=>
    have hf:=tokM_far hk ha
    rw [hk] at h
    rcases List.mem_cons.1 h with rfl | h
    ·exact ⟨hf.1,hf.2.1,hf.2.2.1,hf.2.2.2.1⟩
    ·exact toksM_ok s f (a+l) (by omega) t h
  ·rw [if_neg hlt] at h;simp at h
theorem toksM_length (s:Str):∀f a,(toksM s f a).length≤f
 | 0,a=>by simp [toksM]
 | f+1,a=>by
  rw [toksM];split
  ·have:=toksM_length s f (a+(tokM s a).long);simp;omega
  ·simp
def tokB (ls ds:List Nat):Tk→List Bool
 | .lit c=>symB ls c
 | .far l k=>symB ls (257+symF longF l)++(numB (l-longF.getD (symF longF l) 0) (longB.getD (symF longF l) 0)++(symB ds (symF backF k)++numB (k-backF.getD (symF backF k) 0) (backB.getD (symF backF k) 0)))
def toksB (ls ds:List Nat):List Tk→List Bool
 | []=>symB ls 256
 | t::r=>tokB ls ds t++toksB ls ds r
def Tk.In (ls ds:List Nat):Tk→Prop
 | .lit c=>c<ls.length
 | .far l k=>257+symF longF l<ls.length∧symF backF k<ds.length
theorem symB_length (ns:List Nat) (i:Nat) (hi:i<ns.length) (h15:∀n∈ns,n≤15):(symB ns i).length≤15:=by
 have hm:ns.getD i 0≤15:=by rw [getD_in hi];exact h15 _ (List.getElem_mem hi)
 simp [symB,msb,numB_length];exact hm
theorem tokB_length (ls ds:List Nat) (hl:∀n∈ls,n≤15) (hd:∀n∈ds,n≤15) (t:Tk) (h:t.In ls ds):(tokB ls ds t).length≤48:=by
 cases t with
 | lit c=>have:=symB_length ls c h hl;simp only [tokB];omega
 | far l k=>
  have h1:=symB_length ls _ h.1 hl
  have h2:=symB_length ds _ h.2 hd
  have h3:=longB_le (symF longF l)
  have h4:=backB_le (symF backF k)
  simp only [tokB,List.length_append,numB_length];omega
end Ev
end
section
namespace Ev
open Go
theorem bind_go {α β:Type} (a:α) (f:α→Option β):(some a).bind f=f a:=Eq.trans rfl rfl
def bodyB (ls ds:List Nat) (ts:List Tk):List Bool:=ts.flatMap (tokB ls ds)
theorem toksB_body (ls ds:List Nat):∀ts,toksB ls ds ts=bodyB ls ds ts++symB ls 256
 | []=>rfl
 | t::r=>by rw [toksB,toksB_body ls ds r];simp [bodyB]
theorem zmap_get (ts:List Tk) (i:Nat) (h:i<ts.length):(ts.map Tk.z).getD i (0,0,0)=(ts[i]).z:=by
 rw [getD_in (by simpa using h)];simp
theorem wTokens_l0 (ls ds:List Nat) (hkl:kraft ls≤32768) (hkd:kraft ds≤32768) (hl:∀n∈ls,n≤15) (hd:∀n∈ds,n≤15) (ts:List Tk) (hts:∀t∈ts,t.Ok∧t.In ls ds) (hn:ts.length≤1000) :
  ∀(j i:Nat) (l:List Bool),i+j=ts.length→l.length+48*j≤70000000→
  wTokens.l0 (j+1) (zs ls,zs ds,ts.map Tk.z,(ts.length:Int),(i:Int),(l.length:Int),zs (codesM ls),zs (codesM ds),pack l) =
   some (zs ls,(((l++bodyB ls ds (ts.drop i)).length:Nat):Int),zs (codesM ls),pack (l++bodyB ls ds (ts.drop i)))
 | 0,i,l,hi,hb=>by
  rw [wTokens.l0.succ];simp only [wTokens.l0.step]
  rw [idx_ge (by omega),List.drop_eq_nil_of_le (by omega)];simp [bodyB]
 | j+1,i,l,hi,hb=>by
  have hlt:i<ts.length:=by omega
  obtain ⟨hok,hin⟩:=hts ts[i] (List.getElem_mem hlt)
  have hdr:ts.drop i=ts[i]::ts.drop (i+1):=List.drop_eq_getElem_cons hlt
  have htl:=tokB_length ls ds hl hd ts[i] hin
  have ih:=wTokens_l0 ls ds hkl hkd hl hd ts hts hn j (i+1) (l++tokB ls ds ts[i]) (by omega) (by simp;omega)
  have e:bodyB ls ds (ts.drop i)=tokB ls ds ts[i]++bodyB ls ds (ts.drop (i+1)):=by rw [hdr];rfl
  rw [e,←List.append_assoc,←ih]
  rw [wTokens.l0.succ];simp only [wTokens.l0.step]
  rw [idx_lt hlt,cond_true,need_true _ (by rw [List.length_map];exact idx_in hlt),Int.toNat_natCast,zmap_get ts i hlt,w64_id (n:=(i:Int)+1) (by omega) (by omega),show (i:Int)+1=((i+1:Nat):Int) by omega]
  cases hk:ts[i] with
  | lit c=>
   rw [hk] at hok hin
   have hc:=wCode_eq ls hkl hl c hin l (by omega)
   simp only [Tk.z]
   rw [show ((0:Int)==0)=true from rfl,cond_true,hc]
   simp only [bind_go,tokB]
  | far n k=>
   rw [hk] at hok hin
   obtain ⟨o1,o2,o3,o4⟩:=hok
   obtain ⟨i1,i2⟩:=hin
   obtain ⟨a1,a2,a3,a4,a5⟩:=sym_long n o1 o2
   obtain ⟨b1,b2,b3,b4,b5⟩:=sym_back k o3 o4
   have hlb:=longB_le (symF longF n)
   have hbb:=backB_le (symF backF k)
   have hs1:=symB_length ls (257+symF longF n) i1 hl
   have hs2:=symB_length ds (symF backF k) i2 hd
   have c1:=wCode_eq ls hkl hl _ i1 l (by omega)
   have c2:=wPut_eq (n-longF.getD (symF longF n) 0) (longB.getD (symF longF n) 0) (by omega) (by omega) (l++symB ls (257+symF longF n)) (by simp only [List.length_append];omega)
   have c3:=wCode_eq ds hkd hd _ i2 ((l++symB ls (257+symF longF n))++numB (n-longF.getD (symF longF n) 0) (longB.getD (symF longF n) 0)) (by simp only [List.length_append,numB_length];omega)
   have c4:=wPut_eq (k-backF.getD (symF backF k) 0) (backB.getD (symF backF k) 0) (by omega) (by omega) (((l++symB ls (257+symF longF n))++numB (n-longF.getD (symF longF n) 0) (longB.getD (symF longF n) 0))++symB ds (symF backF k)) (by simp only [List.length_append,numB_length];omega)
   have eL:=longsOf_eq
   have eB:=backsOf_eq
   have gL:=fun i:Nat=>zs_getD longF i
   have gM:=fun i:Nat=>zs_getD longB i
   have gB:=fun i:Nat=>zs_getD backF i
   have gC:=fun i:Nat=>zs_getD backB i
   have nL:(zs longF).length=28:=zs_length longF
   have nM:(zs longB).length=28:=zs_length longB
   have nB:(zs backF).length=30:=zs_length backF
   have nC:(zs backB).length=30:=zs_length backB
   generalize zs longF=A at eL a1 a2 gL nL
   generalize zs longB=A' at eL a1 gM nM
   generalize zs backF=B at eB b1 b2 gB nB
   generalize zs backB=B' at eB b1 gC nC
   simp only [Tk.z]
   rw [show ((n:Int)==0)=false by simp;omega,cond_false,eL,eB]
   simp only [bind_go]
   rw [a1]
   simp only [bind_go]
   rw [w64_id (n:=257+((symF longF n:Nat):Int)) (by omega) (by omega),show (257:Int)+((symF longF n:Nat):Int)=((257+symF longF n:Nat):Int) by omega,c1]
   simp only [bind_go]
   rw [need_true _ (idx_in (by rw [nL];exact a3)),need_true _ (idx_in (by rw [nM];exact a3)),Int.toNat_natCast,gL,gM,
    w64_id (n:=(n:Int)-((longF.getD (symF longF n) 0:Nat):Int)) (by omega) (by omega),show (n:Int)-((longF.getD (symF longF n) 0:Nat):Int)=((n-longF.getD (symF longF n) 0:Nat):Int) by omega,c2]
   simp only [bind_go]
   rw [b1]
   simp only [bind_go]
   rw [c3]
   simp only [bind_go]
   rw [need_true _ (idx_in (by rw [nB];exact b3)),need_true _ (idx_in (by rw [nC];exact b3)),Int.toNat_natCast,gB,gC,
    w64_id (n:=(k:Int)-((backF.getD (symF backF k) 0:Nat):Int)) (by omega) (by omega),show (k:Int)-((backF.getD (symF backF k) 0:Nat):Int)=((k-backF.getD (symF backF k) 0:Nat):Int) by omega,c4]
   simp only [bind_go,tokB,List.append_assoc]
theorem wTokens_eq (ls ds:List Nat) (hkl:kraft ls≤32768) (hkd:kraft ds≤32768) (hl:∀n∈ls,n≤15) (hd:∀n∈ds,n≤15) (h1:ls.length≤300) (h2:ds.length≤300) (h256:256<ls.length) (ts:List Tk) (hts:∀t∈ts,t.Ok∧t.In ls ds) (hn:ts.length≤1000)
  (l:List Bool) (hb:l.length≤60000000):wTokens (ts.map Tk.z) (zs ls) (zs ds) (l.length:Int) (pack l)=some ((((l++toksB ls ds ts).length:Nat):Int),pack (l++toksB ls ds ts)):=by
 unfold wTokens
 rw [codes_eq ls (by omega),codes_eq ds (by omega)]
 simp only [bind_some',List.length_map]
 rw [fuel_of]
 have h:=wTokens_l0 ls ds hkl hkd hl hd ts hts hn ts.length 0 l (by omega) (by omega)
 rw [show ((0:Nat):Int)=0 from rfl] at h
 rw [h,List.drop_zero]
 simp only [bind_some']
 have hbl:(bodyB ls ds ts).length≤48*ts.length:=by
  clear h hn hb
  induction ts with
  | nil=>simp [bodyB]
  | cons t r ih=>
   have:=ih (fun t h=>hts t (List.mem_cons_of_mem _ h))
   have ht:=tokB_length ls ds hl hd t (hts t (List.mem_cons_self ..)).2
   simp only [bodyB,List.flatMap_cons,List.length_append,List.length_cons] at this ⊢;omega
 have hc:=wCode_eq ls hkl hl 256 h256 (l++bodyB ls ds ts) (by simp;omega)
 rw [show ((256:Nat):Int)=256 from rfl] at hc
 rw [hc,toksB_body]
 simp only [bind_some',List.append_assoc]
theorem oTokens_l0 (ls ds:List Nat) (hkl:kraft ls≤32768) (hkd:kraft ds≤32768) (hl:∀n∈ls,n≤15) (hd:∀n∈ds,n≤15) (ts:List Tk) (hts:∀t∈ts,t.Ok∧t.In ls ds) (hn:ts.length≤1000) :
  ∀(j i:Nat) (l:List Bool),i+j=ts.length→l.length+48*j≤70000000→
  oTokens.l0 (j+1) (ts.map Tk.z,zs ls,zs ds,(i:Int),(oL l:Int),((l.length%8:Nat):Int),zs (codesM ls),zs (codesM ds),zs longF,zs backF,oT l) =
   some (zs ls,(oL (l++bodyB ls ds (ts.drop i)):Int),(((l++bodyB ls ds (ts.drop i)).length%8:Nat):Int),zs (codesM ls),oT (l++bodyB ls ds (ts.drop i)))
 | 0,i,l,hi,hb=>by
  rw [oTokens.l0.succ];simp only [oTokens.l0.step,List.length_map]
  rw [idx_ge (by omega),List.drop_eq_nil_of_le (by omega)];simp [bodyB]
 | j+1,i,l,hi,hb=>by
  have hlt:i<ts.length:=by omega
  obtain ⟨hok,hin⟩:=hts ts[i] (List.getElem_mem hlt)
  have hdr:ts.drop i=ts[i]::ts.drop (i+1):=List.drop_eq_getElem_cons hlt
  have htl:=tokB_length ls ds hl hd ts[i] hin
  have ih:=oTokens_l0 ls ds hkl hkd hl hd ts hts hn j (i+1) (l++tokB ls ds ts[i]) (by omega) (by simp;omega)
  have e:bodyB ls ds (ts.drop i)=tokB ls ds ts[i]++bodyB ls ds (ts.drop (i+1)):=by rw [hdr];rfl
  rw [e,←List.append_assoc,←ih]
  rw [oTokens.l0.succ];simp only [oTokens.l0.step,List.length_map]
  rw [idx_lt hlt,cond_true,need_true _ idx_in',Int.toNat_natCast,zmap_get ts i hlt,w64_id (n:=(i:Int)+1) (by omega) (by omega),show (i:Int)+1=((i+1:Nat):Int) by omega]
  cases hk:ts[i] with
  | lit c=>
   rw [hk] at hok hin
   have hc:=oSym_eq ls hkl hl c hin l (by omega)
   simp only [Tk.z]
   rw [show ((0:Int)==0)=true from rfl,cond_true,hc]
   simp only [bind_some',tokB]
  | far n k=>
   rw [hk] at hok hin
   obtain ⟨o1,o2,o3,o4⟩:=hok
   obtain ⟨i1,i2⟩:=hin
   obtain ⟨a1,a2,a3,a4,a5⟩:=sym_long n o1 o2
   obtain ⟨b1,b2,b3,b4,b5⟩:=sym_back k o3 o4
   have hlb:=longB_le (symF longF n)
   have hbb:=backB_le (symF backF k)
   have hs1:=symB_length ls (257+symF longF n) i1 hl
   have hs2:=symB_length ds (symF backF k) i2 hd
   have c1:=oSym_eq ls hkl hl _ i1 l (by omega)
   have c2:=oPut_eq (n-longF.getD (symF longF n) 0) (longB.getD (symF longF n) 0) (by omega) (by omega) (l++symB ls (257+symF longF n)) (by simp only [List.length_append];omega)
   have c3:=oSym_eq ds hkd hd _ i2 ((l++symB ls (257+symF longF n))++numB (n-longF.getD (symF longF n) 0) (longB.getD (symF longF n) 0)) (by simp only [List.length_append,numB_length];omega)
   have c4:=oPut_eq (k-backF.getD (symF backF k) 0) (backB.getD (symF backF k) 0) (by omega) (by omega) (((l++symB ls (257+symF longF n))++numB (n-longF.getD (symF longF n) 0) (longB.getD (symF longF n) 0))++symB ds (symF backF k)) (by simp only [List.length_append,numB_length];omega)
   simp only [Tk.z]
   rw [show ((n:Int)==0)=false by simp;omega,cond_false,l5LongBits_eq,l5BackBits_eq]
   simp only [bind_some',a2,b2]
   rw [w64_id (n:=257+((symF longF n:Nat):Int)) (by omega) (by omega),show (257:Int)+((symF longF n:Nat):Int)=((257+symF longF n:Nat):Int) by omega,c1]
   simp only [bind_some']
   rw [need_true _ (idx_in (by rw [zs_length];exact a3)),need_true _ (idx_in (by rw [zs_length];exact a3)),Int.toNat_natCast,zs_getD,zs_getD,
    w64_id (n:=(n:Int)-((longF.getD (symF longF n) 0:Nat):Int)) (by omega) (by omega),show (n:Int)-((longF.getD (symF longF n) 0:Nat):Int)=((n-longF.getD (symF longF n) 0:Nat):Int) by omega,c2]
   simp only [bind_some']
   rw [c3]
   simp only [bind_some']
   rw [need_true _ (idx_in (by rw [zs_length];exact b3)),need_true _ (idx_in (by rw [zs_length];exact b3)),Int.toNat_natCast,zs_getD,zs_getD,
    w64_id (n:=(k:Int)-((backF.getD (symF backF k) 0:Nat):Int)) (by omega) (by omega),show (k:Int)-((backF.getD (symF backF k) 0:Nat):Int)=((k-backF.getD (symF backF k) 0:Nat):Int) by omega,c4]
   simp only [bind_some',tokB,List.append_assoc]
theorem bodyB_length (ls ds:List Nat) (hl:∀n∈ls,n≤15) (hd:∀n∈ds,n≤15):∀ts:List Tk,(∀t∈ts,t.Ok∧t.In ls ds)→(bodyB ls ds ts).length≤48*ts.length
 | [],_=>by simp [bodyB]
 | t::r,h=>by
  have:=bodyB_length ls ds hl hd r (fun t ht=>h t (List.mem_cons_of_mem _ ht))
  have ht:=tokB_length ls ds hl hd t (h t (List.mem_cons_self ..)).2
  simp only [bodyB,List.flatMap_cons,List.length_append,List.length_cons] at this ⊢;omega
theorem oTokens_eq (ls ds:List Nat) (hkl:kraft ls≤32768) (hkd:kraft ds≤32768) (hl:∀n∈ls,n≤15) (hd:∀n∈ds,n≤15) (h1:ls.length≤300) (h2:ds.length≤300) (h256:256<ls.length) (ts:List Tk) (hts:∀t∈ts,t.Ok∧t.In ls ds) (hn:ts.length≤1000)
  (l:List Bool) (hb:l.length≤60000000):oTokens (ts.map Tk.z) (zs ls) (zs ds) (oL l:Int) ((l.length%8:Nat):Int) (oT l) =
   some ((oL (l++toksB ls ds ts):Int),(((l++toksB ls ds ts).length%8:Nat):Int),oT (l++toksB ls ds ts)):=by
 unfold oTokens
 rw [l3Codes_eq ls (by omega),l3Codes_eq ds (by omega),l5LongBits_eq,l5BackBits_eq]
 simp only [bind_some',List.length_map,l5Base_long,l5Base_back]
 rw [fuel_of]
 have h:=oTokens_l0 ls ds hkl hkd hl hd ts hts hn ts.length 0 l (by omega) (by omega)
 rw [show ((0:Nat):Int)=0 from rfl] at h
 rw [h,List.drop_zero]
 simp only [bind_some']
 have hbl:=bodyB_length ls ds hl hd ts hts
 have hc:=oSym_eq ls hkl hl 256 h256 (l++bodyB ls ds ts) (by simp;omega)
 rw [show ((256:Nat):Int)=256 from rfl] at hc
 rw [hc,toksB_body]
 simp only [bind_some',List.append_assoc]
end Ev
end
section
namespace Ev
open Go
def textB (l:List Bool):Str:=toBytes (pack l)
theorem textB_length (l:List Bool):(textB l).length=(l.length+7)/8:=by simp [textB,toBytes,pack_length]
def hdr8:List Bool:=[true,false,false,false,false,false,false,false]
def storeB (n:Nat):List Bool:=hdr8++numB n 16++numB (65535-n) 16
def storeT (s:Str):Str:=textB (storeB s.length)++s
theorem storePut_eq (s:Str) (hs:s.length≤300):storePut s=some (storeT s):=by
 have e1:wPut 1 3 0 []=some (3,[1]):=by kernel_rfl
 have e2:wEven 3 [1]=some (8,pack hdr8):=by kernel_rfl
 have e3:=wPut_eq s.length 16 (by omega) (by omega) hdr8 (by simp [hdr8])
 have e4:=wPut_eq (65535-s.length) 16 (by omega) (by omega) (hdr8++numB s.length 16) (by simp [hdr8,numB_length])
 rw [show (hdr8.length:Int)=8 from rfl,show ((16:Nat):Int)=16 from rfl] at e3
 rw [show ((16:Nat):Int)=16 from rfl] at e4
 unfold storePut
 rw [decide_eq_false (by omega),cond_false,e1]
 simp only [bind_go]
 rw [e2]
 simp only [bind_go]
 rw [e3]
 simp only [bind_go]
 rw [w64_id (by omega) (by omega),show (65535:Int)-(s.length:Int)=((65535-s.length:Nat):Int) by omega,e4]
 simp only [bind_go]
 rw [need_fits]
 ·rfl
 ·have:=textB_length (storeB s.length)
  unfold textB storeB at this
  rw [this];simp [hdr8,numB_length];omega
theorem l5Store_eq (s:Str) (hs:s.length≤300):l5Store s=some (storeT s):=by
 have e1:oPut 1 1 0 0 []=some (1,1,[]):=by kernel_rfl
 have e2:oPut 0 2 1 1 []=some (1,3,[]):=by kernel_rfl
 have e3:oWhole 1 3 []=some (0,0,oT hdr8):=by kernel_rfl
 have e4:=oPut_eq s.length 16 (by omega) (by omega) hdr8 (by simp [hdr8])
 have e5:=oPut_eq (65535-s.length) 16 (by omega) (by omega) (hdr8++numB s.length 16) (by simp [hdr8,numB_length])
 rw [show (oL hdr8:Int)=0 by kernel_rfl,show ((hdr8.length%8:Nat):Int)=0 from rfl,show ((16:Nat):Int)=16 from rfl] at e4
 rw [show ((16:Nat):Int)=16 from rfl] at e5
 unfold l5Store
 rw [e1]
 simp only [bind_go]
 rw [e2]
 simp only [bind_go]
 rw [e3]
 simp only [bind_go]
 rw [e4]
 simp only [bind_go]
 rw [w64_id (by omega) (by omega),show (65535:Int)-(s.length:Int)=((65535-s.length:Nat):Int) by omega,e5]
 simp only [bind_go]
 have hl:(storeB s.length).length=40:=by simp [storeB,hdr8,numB_length]
 have hq:=textB_length (storeB s.length)
 unfold textB at hq
 have hp:oT (storeB s.length)=pack (storeB s.length):=by
  have hf:fillB (storeB s.length)=storeB s.length:=by unfold fillB;rw [hl,show (8-40%8)%8=0 from rfl,List.replicate_zero,List.append_nil]
  rw [(pack_fill _).1,hf]
 rw [show oT (hdr8++numB s.length 16++numB (65535-s.length) 16)=pack (storeB s.length) from hp,need_fits (by rw [hq,hl];omega)]
 rfl
theorem storeT_length (s:Str):(storeT s).length=5+s.length:=by
 simp only [storeT,List.length_append,textB_length]
 simp [storeB,hdr8,numB_length]
theorem fixL_kraft:kraft fixL=32768:=by kernel_rfl
theorem fixD_kraft:kraft fixD=32768:=by kernel_rfl
theorem fixL_le:∀n∈fixL,n≤15:=by
 intro n hn
 simp only [fixL,List.mem_append,List.mem_replicate] at hn
 omega
theorem fixD_le:∀n∈fixD,n≤15:=by
 intro n hn
 simp only [fixD,List.mem_replicate] at hn
 omega
theorem fixL_length:fixL.length=288:=by kernel_rfl
theorem fixD_length:fixD.length=32:=by kernel_rfl
theorem fix_in (t:Tk) (h:t.Ok):t.In fixL fixD:=by
 cases t with
 | lit c=>show c<fixL.length;rw [fixL_length];have:c<256:=h;omega
 | far l k=>
  obtain ⟨h1,h2,h3,h4⟩:=h
  have a:=(sym_long l h1 h2).2.2.1
  have b:=(sym_back k h3 h4).2.2.1
  show 257+symF longF l<fixL.length∧symF backF k<fixD.length
  rw [fixL_length,fixD_length];omega
theorem toks_ok (s:Str):∀t∈toks s,t.Ok:=toksM_ok s _ 0 (Nat.zero_le _)
theorem toks_length (s:Str):(toks s).length≤s.length:=toksM_length s _ 0
def fixedB (s:Str):List Bool:=numB 1 1++numB 1 2++toksB fixL fixD (toks s)
def fixedT (s:Str):Str:=textB (fixedB s)
theorem fixedPut_eq (s:Str) (hs:s.length≤300):fixedPut s=some (fixedT s):=by
 have hl:=toks_length s
 have e1:=wPut_eq 1 1 (by omega) (by omega) [] (by simp)
 have e2:=wPut_eq 1 2 (by omega) (by omega) ([]++numB 1 1) (by simp [numB_length])
 have e3:=wTokens_eq fixL fixD (by rw [fixL_kraft];omega) (by rw [fixD_kraft];omega) fixL_le fixD_le (by rw [fixL_length];omega) (by rw [fixD_length];omega) (by rw [fixL_length];omega) (toks s) (fun t h=>⟨toks_ok s t h,fix_in t (toks_ok s t h)⟩) (by omega) ([]++numB 1 1++numB 1 2) (by simp [numB_length])
 rw [show ((1:Nat):Int)=1 from rfl,show (([]:List Bool).length:Int)=0 from rfl,show pack []=[] by kernel_rfl] at e1
 rw [show ((1:Nat):Int)=1 from rfl,show ((2:Nat):Int)=2 from rfl] at e2
 unfold fixedPut
 rw [decide_eq_false (by omega),cond_false,e1]
 simp only [bind_go]
 rw [e2]
 simp only [bind_go]
 rw [fixedLens_eq,tokensOf_eq s hs]
 simp only [bind_go]
 rw [e3]
 rfl
theorem l5Known_eq (s:Str) (hs:s.length≤300):l5Known s=some (fixedT s):=by
 have hl:=toks_length s
 have e1:=oPut_eq 1 1 (by omega) (by omega) [] (by simp)
 have e2:=oPut_eq 1 2 (by omega) (by omega) ([]++numB 1 1) (by simp [numB_length])
 have e3:=oTokens_eq fixL fixD (by rw [fixL_kraft];omega) (by rw [fixD_kraft];omega) fixL_le fixD_le (by rw [fixL_length];omega) (by rw [fixD_length];omega) (by rw [fixL_length];omega) (toks s) (fun t h=>⟨toks_ok s t h,fix_in t (toks_ok s t h)⟩) (by omega) ([]++numB 1 1++numB 1 2) (by simp [numB_length])
 have hb:=bodyB_length fixL fixD fixL_le fixD_le (toks s) (fun t h=>⟨toks_ok s t h,fix_in t (toks_ok s t h)⟩)
 have h2:=symB_length fixL 256 (by rw [fixL_length];omega) fixL_le
 have e4:=oWhole_eq ([]++numB 1 1++numB 1 2++toksB fixL fixD (toks s)) (by simp only [toksB_body,List.length_append,numB_length,List.length_nil];omega)
 rw [show ((1:Nat):Int)=1 from rfl,show (oL []:Int)=0 by kernel_rfl,show ((([]:List Bool).length%8:Nat):Int)=0 from rfl,show oT []=[] by kernel_rfl] at e1
 rw [show ((1:Nat):Int)=1 from rfl,show ((2:Nat):Int)=2 from rfl] at e2
 unfold l5Known
 rw [e1]
 simp only [bind_go]
 rw [e2]
 simp only [bind_go]
 rw [l5Fixed_eq,l5Fives_eq,l4Tokens_eq s hs]
 simp only [bind_go]
 rw [e3]
 simp only [bind_go]
 rw [e4]
 rfl
end Ev
end
section
namespace Ev
open Go
abbrev HT:=Nat×Nat×List Nat
def bump (out:List Nat) (S:List Nat):List Nat:=(List.range out.length).map fun i=>out.getD i 0+S.count i
theorem bump_length (out S:List Nat):(bump out S).length=out.length:=by simp [bump]
theorem bump_getD (out S:List Nat) (i:Nat) (h:i<out.length):(bump out S).getD i 0=out.getD i 0+S.count i:=by
 rw [getD_in (by rw [bump_length];exact h)]
 simp [bump]
theorem bump_perm (out:List Nat) {S S':List Nat} (h:S.Perm S'):bump out S=bump out S':=by
 unfold bump
 exact List.map_congr_left fun i _=>by rw [h.count_eq]
theorem bump_nil (out:List Nat):bump out []=out:=by
 apply List.ext_getElem
 ·exact bump_length _ _
 ·intro i h1 h2
  have:=bump_getD out [] i h2
  rw [getD_in h1,getD_in h2] at this
  simpa using this
theorem bump_snoc (out S:List Nat) (s:Nat) (h:s<out.length):bump out (S++[s])=(bump out S).set s ((bump out S).getD s 0+1):=by
 apply List.ext_getElem
 ·simp [bump_length]
 ·intro i h1 h2
  rw [bump_length] at h1
  have e1:=bump_getD out (S++[s]) i h1
  have e2:=bump_getD out S i h1
  rw [getD_in (by rw [bump_length];exact h1)] at e1 e2
  have e3:=bump_getD out S s h
  rw [e1,List.getElem_set,e2,List.count_append]
  by_cases c:s=i
  ·subst c;rw [if_pos rfl,e3];simp;omega
  ·rw [if_neg c];simp [List.count_cons,c]
def sumB (out:List Nat) (S:List Nat):Nat:=(S.map fun s=>2^(15-out.getD s 0)).sum
def fibN:Nat→Nat
 | 0=>0
 | 1=>1
 | n+2=>fibN n+fibN (n+1)
theorem fibN_up (n:Nat):fibN n≤fibN (n+1):=by
 cases n with
 | zero=>decide
 | succ n=>show fibN (n+1)≤fibN n+fibN (n+1);omega
theorem fibN_mono {a b:Nat} (h:a≤b):fibN a≤fibN b:=by
 induction h with
 | refl=>exact Nat.le_refl _
 | step _ ih=>exact Nat.le_trans ih (fibN_up _)
theorem fibN_pos (n:Nat):1≤fibN (n+1):=fibN_mono (a:=1) (by omega)
theorem fibN_deep {d c:Nat} (h:fibN (d+2)≤c) (hc:c≤400):d≤12:=by
 rcases Nat.lt_or_ge 12 d with h13 | h13
 ·have:fibN 15≤fibN (d+2):=fibN_mono (by omega)
  have:fibN 15=610:=by decide
  omega
 ·exact h13
structure TOk (out:List Nat) (T:Nat) (e:HT):Prop where
 fin:e.2.1∈e.2.2
 fle:∀s∈e.2.2,e.2.1≤s
 lt:∀s∈e.2.2,s<out.length
 kr:sumB out e.2.2=32768
 dep:∃d,(∀s∈e.2.2,out.getD s 0≤d)∧fibN (d+2)≤e.1∧(1≤d→fibN (d+1)≤T)
 top:T≤e.1
structure HInv (out:List Nat) (l:List HT) (T:Nat) (U:List Nat) (tot:Nat):Prop where
 all:∀e∈l,TOk out T e
 perm:(l.flatMap fun e=>e.2.2).Perm U
 sum:(l.map fun e=>e.1).sum=tot
theorem sum_perm {α:Type} {l l':List α} (f:α→Nat) (h:l.Perm l'):(l.map f).sum=(l'.map f).sum:=by
 induction h with
 | nil=>rfl
 | cons x _ ih=>simp [ih]
 | swap x y l=>simp only [List.map_cons,List.sum_cons];omega
 | trans _ _ a b=>exact a.trans b
theorem flat_perm {α β:Type} {l l':List α} (f:α→List β) (h:l.Perm l'):(l.flatMap f).Perm (l'.flatMap f):=by
 induction h with
 | nil=>exact .refl _
 | cons x _ ih=>simpa using List.Perm.append_left _ ih
 | swap x y l=>
  simp only [List.flatMap_cons,←List.append_assoc]
  exact List.Perm.append_right _ List.perm_append_comm
 | trans _ _ a b=>exact a.trans b
theorem HInv.of_perm {out:List Nat} {l l':List HT} {T:Nat} {U:List Nat} {tot:Nat} (h:HInv out l T U tot) (p:l.Perm l'):HInv out l' T U tot:=
 ⟨fun e he=>h.all e (p.mem_iff.2 he),(flat_perm _ p).symm.trans h.perm,(sum_perm _ p).symm.trans h.sum⟩
theorem sumB_half (out S:List Nat) (h:∀s∈S,s<out.length∧out.getD s 0≤14) (out':List Nat) (h':∀s∈S,out'.getD s 0=out.getD s 0+1):2*sumB out' S=sumB out S:=by
 induction S with
 | nil=>rfl
 | cons s S ih=>
  have:=ih (fun x hx=>h x (List.mem_cons_of_mem _ hx)) (fun x hx=>h' x (List.mem_cons_of_mem _ hx))
  have h1:=h s (List.mem_cons_self ..)
  have h2:=h' s (List.mem_cons_self ..)
  simp only [sumB,List.map_cons,List.sum_cons] at this ⊢
  rw [h2,Nat.mul_add,this]
  congr 1
  rw [show 15-out.getD s 0=(15-(out.getD s 0+1))+1 by omega,Nat.pow_succ,Nat.mul_comm]
theorem sumB_same (out out' S:List Nat) (h':∀s∈S,out'.getD s 0=out.getD s 0):sumB out' S=sumB out S:=by
 unfold sumB
 congr 1
 exact List.map_congr_left fun s hs=>by rw [h' s hs]
theorem sumB_append (out a b:List Nat):sumB out (a++b)=sumB out a+sumB out b:=by simp [sumB]
def joinT (a b:HT):HT:=(a.1+b.1,(if b.2.1<a.2.1 then b.2.1 else a.2.1),a.2.2++b.2.2)
theorem HInv.step {out:List Nat} {a b:HT} {r:List HT} {T:Nat} {U:List Nat} {tot:Nat} (h:HInv out (a::b::r) T U tot) (hU:U.Nodup) (htot:tot≤400) (hab:a.1≤b.1) (hr:∀e∈r,b.1≤e.1) :
  HInv (bump out (a.2.2++b.2.2)) (joinT a b::r) b.1 U tot:=by
 have ha:=h.all a (by simp)
 have hb:=h.all b (by simp)
 have hsum:=h.sum
 simp only [List.map_cons,List.sum_cons] at hsum
 have hp:=h.perm
 simp only [List.flatMap_cons] at hp
 have hnd:=(hp.nodup_iff).2 hU
 rw [←List.append_assoc] at hnd
 obtain ⟨da,a1,a2,a3⟩:=ha.dep
 obtain ⟨db,b1,b2,b3⟩:=hb.dep
 have hda:=fibN_deep a2 (by omega)
 have hdb:=fibN_deep b2 (by omega)
 have hlt:∀s∈a.2.2++b.2.2,s<out.length:=fun s hs=>(List.mem_append.1 hs).elim (ha.lt s) (hb.lt s)
 have hone:∀s∈a.2.2++b.2.2,(bump out (a.2.2++b.2.2)).getD s 0=out.getD s 0+1:=fun s hs=>by
  rw [bump_getD out _ s (hlt s hs)]
  have:=(List.nodup_append.1 hnd).1
  rw [this.count,if_pos hs]
 have hother:∀e∈r,∀s∈e.2.2,(bump out (a.2.2++b.2.2)).getD s 0=out.getD s 0:=fun e he s hs=>by
  rw [bump_getD out _ s ((h.all e (by simp [he])).lt s hs),List.count_eq_zero.2 (fun hm=>(List.nodup_append.1 hnd).2.2 s hm s (List.mem_flatMap.2 ⟨e,he,hs⟩) rfl)];rfl
 refine ⟨fun e he=>?_,?_,?_⟩
 ·rcases List.mem_cons.1 he with rfl | he
  ·have pa:=fibN_pos (da+1)
   have pb:=fibN_pos (db+1)
   refine ⟨?_,fun s hs=>?_,fun s hs=>by rw [bump_length];exact hlt s hs,?_,⟨max da db+1,fun s hs=>?_,?_,fun _=>?_⟩,Nat.le_add_left _ _⟩
   ·show (if b.2.1<a.2.1 then b.2.1 else a.2.1)∈a.2.2++b.2.2
    split
    ·exact List.mem_append_right _ hb.fin
    ·exact List.mem_append_left _ ha.fin
   ·show (if b.2.1<a.2.1 then b.2.1 else a.2.1)≤s
    rcases List.mem_append.1 hs with hs | hs
    ·have:=ha.fle s hs;split<;>omega
    ·have:=hb.fle s hs;split<;>omega
   ·have h2:=sumB_half out (a.2.2++b.2.2) (fun s hs=>⟨hlt s hs,by
     rcases List.mem_append.1 hs with hs | hs
     ·have:=a1 s hs;omega
     ·have:=b1 s hs;omega⟩) _ hone
    rw [sumB_append out,ha.kr,hb.kr] at h2
    show sumB _ (a.2.2++b.2.2)=32768
    omega
   ·rw [hone s hs]
    rcases List.mem_append.1 hs with hs | hs
    ·have:=a1 s hs;omega
    ·have:=b1 s hs;omega
   ·show fibN (max da db+1+2)≤a.1+b.1
    have e:fibN (max da db+1+2)=fibN (max da db+1)+fibN (max da db+2):=rfl
    rw [e]
    rcases Nat.le_total db da with hd | hd
    ·rw [Nat.max_eq_left hd]
     have:fibN (da+1)≤b.1:=by
      rcases Nat.eq_zero_or_pos da with h0 | h0
      ·subst h0;exact Nat.le_trans (fibN_pos 0 |> fun _=>(by simpa [fibN] using pb)) b2
      ·exact Nat.le_trans (a3 h0) hb.top
     omega
    ·rw [Nat.max_eq_right hd]
     have:fibN (db+1)≤a.1:=by
      rcases Nat.eq_zero_or_pos db with h0 | h0
      ·subst h0;exact Nat.le_trans (by simpa [fibN] using pa) a2
      ·exact Nat.le_trans (b3 h0) ha.top
     omega
   ·show fibN (max da db+1+1)≤b.1
    rcases Nat.le_total db da with hd | hd
    ·rw [Nat.max_eq_left hd];exact Nat.le_trans a2 hab
    ·rw [Nat.max_eq_right hd];exact b2
  ·have he':=h.all e (by simp [he])
   obtain ⟨d,d1,d2,d3⟩:=he'.dep
   exact ⟨he'.fin,he'.fle,fun s hs=>by rw [bump_length];exact he'.lt s hs,(sumB_same _ _ _ (hother e he)).trans he'.kr,
    ⟨d,fun s hs=>by rw [hother e he s hs];exact d1 s hs,d2,fun h1=>Nat.le_trans (d3 h1) hb.top⟩,hr e he⟩
 ·simp only [List.flatMap_cons,joinT,List.append_assoc];exact hp
 ·simp only [List.map_cons,List.sum_cons,joinT];omega
end Ev
end
section
namespace Ev
open Go
def ltH (x y:HT):Bool:=decide (x.1<y.1)||(decide (x.1=y.1)&&decide (x.2.1<y.2.1))
def HT.d:HT:=(0,0,[])
def leastH (l:List HT):Nat→Nat→Nat→Nat
 | 0,a,_=>a
 | f+1,a,i=>leastH l f (if ltH (l.getD i HT.d) (l.getD a HT.d) then i else a) (i+1)
def lst (l:List HT):Nat:=leastH l (l.length-1) 0 1
def less (l:List HT) (k:Nat):List HT:=l.take k++l.drop (k+1)
theorem leastH_spec (l:List HT):∀(f a i:Nat),i+f=l.length→a<l.length→(∀j,j<i→(l.getD a HT.d).1≤(l.getD j HT.d).1)→
  leastH l f a i<l.length∧∀j,j<l.length→(l.getD (leastH l f a i) HT.d).1≤(l.getD j HT.d).1
 | 0,a,i,h,ha,hj=>⟨ha,fun j hl=>hj j (by omega)⟩
 | f+1,a,i,h,ha,hj=>by
  rw [leastH]
  by_cases c:ltH (l.getD i HT.d) (l.getD a HT.d)=true
  ·rw [if_pos c]
   refine leastH_spec l f i (i+1) (by omega) (by omega) fun j hl=>?_
   have:(l.getD i HT.d).1≤(l.getD a HT.d).1:=by
    simp only [ltH,Bool.or_eq_true,Bool.and_eq_true,decide_eq_true_eq] at c;omega
   by_cases e:j=i
   ·subst e;exact Nat.le_refl _
   ·have:=hj j (by omega);omega
  ·rw [if_neg c]
   refine leastH_spec l f a (i+1) (by omega) ha fun j hl=>?_
   by_cases e:j=i
   ·subst e
    simp only [ltH,Bool.or_eq_true,Bool.and_eq_true,decide_eq_true_eq] at c;omega
   ·exact hj j (by omega)
theorem lst_spec (l:List HT) (h:0<l.length):lst l<l.length∧∀e∈l,(l.getD (lst l) HT.d).1≤e.1:=by
 have:=leastH_spec l (l.length-1) 0 1 (by omega) h (fun j hj=>by rw [show j=0 by omega];exact Nat.le_refl _)
 refine ⟨this.1,fun e he=>?_⟩
 obtain ⟨j,hj,rfl⟩:=List.getElem_of_mem he
 have h2:=this.2 j hj
 rw [getD_in hj] at h2
 exact h2
theorem less_perm (l:List HT) (k:Nat) (h:k<l.length):l.Perm (l.getD k HT.d::less l k):=by
 have e:l=l.take k++(l.getD k HT.d::l.drop (k+1)):=by
  rw [getD_in h,←List.drop_eq_getElem_cons h,List.take_append_drop]
 have p:=List.perm_middle (a:=l.getD k HT.d) (l₁:=l.take k) (l₂:=l.drop (k+1))
 have:l.Perm (l.take k++(l.getD k HT.d::l.drop (k+1))):=by rw [←e]
 exact this.trans p
theorem less_length (l:List HT) (k:Nat) (h:k<l.length):(less l k).length+1=l.length:=by
 have:=(less_perm l k h).length_eq
 simpa using this.symm
def fstA (l:List HT):HT:=l.getD (lst l) HT.d
def sndA (l:List HT):HT:=fstA (less l (lst l))
def restA (l:List HT):List HT:=less (less l (lst l)) (lst (less l (lst l)))
def huffGo:Nat→List Nat→List HT→List Nat
 | 0,out,_=>out
 | n+1,out,l=>if 1<l.length then huffGo n (bump out ((fstA l).2.2++(sndA l).2.2)) (restA l++[joinT (fstA l) (sndA l)]) else out
theorem pairA (l:List HT) (h:1<l.length):l.Perm (fstA l::sndA l::restA l)∧(fstA l).1≤(sndA l).1∧(∀e∈restA l,(sndA l).1≤e.1)∧(restA l).length+2=l.length:=by
 obtain ⟨h1,h2⟩:=lst_spec l (by omega)
 have p1:=less_perm l (lst l) h1
 have n1:=less_length l (lst l) h1
 obtain ⟨h3,h4⟩:=lst_spec (less l (lst l)) (by omega)
 have p2:=less_perm (less l (lst l)) _ h3
 have n2:=less_length (less l (lst l)) _ h3
 have pp:l.Perm (fstA l::sndA l::restA l):=p1.trans (p2.cons _)
 refine ⟨pp,h2 _ (pp.mem_iff.2 (by simp)),fun e he=>h4 e (p2.mem_iff.2 (List.mem_cons_of_mem _ he)),?_⟩
 unfold restA;omega
theorem HInv.next {out:List Nat} {l:List HT} {T:Nat} {U:List Nat} {tot:Nat} (h:HInv out l T U tot) (hU:U.Nodup) (htot:tot≤400) (hl:1<l.length) :
  HInv (bump out ((fstA l).2.2++(sndA l).2.2)) (restA l++[joinT (fstA l) (sndA l)]) (sndA l).1 U tot∧(restA l++[joinT (fstA l) (sndA l)]).length+1=l.length:=by
 obtain ⟨p,h1,h2,h3⟩:=pairA l hl
 refine ⟨((h.of_perm p).step hU htot h1 h2).of_perm ?_,by simp;omega⟩
 exact (List.perm_append_comm (l₁:=[joinT (fstA l) (sndA l)]) (l₂:=restA l))
theorem huffGo_spec {U:List Nat} {tot:Nat} (hU:U.Nodup) (htot:tot≤400):∀(n:Nat) (out:List Nat) (l:List HT) (T:Nat),l.length=n+1→HInv out l T U tot→
  (huffGo n out l).length=out.length∧(∀i,i<out.length→i∉U→(huffGo n out l).getD i 0=out.getD i 0)∧∃e T',HInv (huffGo n out l) [e] T' U tot
 | 0,out,l,T,hl,h=>by
  obtain ⟨e,rfl⟩:=List.length_eq_one_iff.1 hl
  exact ⟨rfl,fun _ _ _=>rfl,e,T,h⟩
 | n+1,out,l,T,hl,h=>by
  obtain ⟨h1,h2⟩:=h.next hU htot (by omega)
  have ih:=huffGo_spec hU htot n _ _ _ (by omega) h1
  rw [huffGo,if_pos (by omega)]
  refine ⟨ih.1.trans (bump_length _ _),fun i hi hn=>?_,ih.2.2⟩
  rw [ih.2.1 i (by rw [bump_length];exact hi) hn,bump_getD _ _ _ hi,List.count_eq_zero.2,Nat.add_zero]
  intro hm
  apply hn
  obtain ⟨p,_⟩:=pairA l (by omega)
  refine h.perm.mem_iff.1 (List.mem_flatMap.2 ?_)
  rcases List.mem_append.1 hm with hm | hm
  ·exact ⟨_,p.mem_iff.2 (by simp),hm⟩
  ·exact ⟨_,p.mem_iff.2 (by simp),hm⟩
def usedI (ns:List Nat):List Nat:=(List.range ns.length).filter fun i=>decide (0<ns.getD i 0)
theorem usedI_cons (n:Nat) (r:List Nat):usedI (n::r)=(if 0<n then [0] else [])++(usedI r).map (· + 1):=by
 unfold usedI
 rw [List.length_cons,List.range_succ_eq_map,List.filter_cons,List.filter_map]
 by_cases h:0<n
 ·rw [if_pos (by simpa using h),if_pos h];rfl
 ·rw [if_neg (by simpa using h),if_neg h];rfl
theorem used_usedI:∀ns,used ns=(usedI ns).length
 | []=>rfl
 | n::r=>by
  rw [usedI_cons,used,used_usedI r]
  by_cases h:0<n
  ·rw [if_pos h,if_pos h];simp;omega
  ·rw [if_neg h,if_neg h];simp
theorem kraft_usedI:∀ns,kraft ns=sumB ns (usedI ns)
 | []=>rfl
 | n::r=>by
  have e:sumB (n::r) ((usedI r).map (· + 1))=sumB r (usedI r):=by
   unfold sumB;rw [List.map_map];rfl
  rw [usedI_cons,kraft,kraft_usedI r,sumB_append,e]
  by_cases h:0<n
  ·rw [if_pos h,if_pos h];simp [sumB]
  ·rw [if_neg h,if_neg h];simp [sumB]
theorem sum_usedI:∀ns:List Nat,((usedI ns).map fun i=>ns.getD i 0).sum=ns.sum
 | []=>rfl
 | n::r=>by
  have e:(((usedI r).map (· + 1)).map fun i=>(n::r).getD i 0)=(usedI r).map fun i=>r.getD i 0:=by rw [List.map_map];rfl
  rw [usedI_cons,List.map_append,e,List.sum_append,sum_usedI r,List.sum_cons]
  by_cases h:0<n
  ·rw [if_pos h];simp
  ·rw [if_neg h];simp;omega
theorem mem_usedI (ns:List Nat) (i:Nat):i∈usedI ns↔i<ns.length∧0<ns.getD i 0:=by
 simp [usedI]
theorem usedI_nodup (ns:List Nat):(usedI ns).Nodup:=List.Pairwise.filter _ List.nodup_range
def leaves (cs:List Nat):List HT:=(usedI cs).map fun i=>(cs.getD i 0,i,[i])
def huffM (cs:List Nat):List Nat:=
 if (usedI cs).length=1 then (List.replicate cs.length 0).set ((usedI cs).getD 0 0) 1 else huffGo ((usedI cs).length-1) (List.replicate cs.length 0) (leaves cs)
theorem replicate_getD (n i:Nat):(List.replicate n 0).getD i 0=0:=by
 by_cases h:i<n
 ·rw [getD_in (by simpa using h)];simp
 ·simp [List.getD,Nat.le_of_not_lt h]
theorem leaves_inv (cs:List Nat):HInv (List.replicate cs.length 0) (leaves cs) 0 (usedI cs) cs.sum:=by
 refine ⟨fun e he=>?_,?_,?_⟩
 ·obtain ⟨i,hi,rfl⟩:=List.mem_map.1 he
  obtain ⟨h1,h2⟩:=(mem_usedI cs i).1 hi
  refine ⟨by simp,fun s hs=>?_,fun s hs=>?_,?_,⟨0,fun s hs=>?_,?_,fun h=>?_⟩,Nat.zero_le _⟩
  ·have:s=i:=by simpa using hs
   subst this;exact Nat.le_refl _
  ·have:s=i:=by simpa using hs
   subst this;simpa using h1
  ·simp only [sumB,List.map_cons,List.map_nil,List.sum_cons,List.sum_nil,replicate_getD];rfl
  ·rw [replicate_getD];exact Nat.le_refl _
  ·show 1≤cs.getD i 0;omega
  ·omega
 ·unfold leaves
  rw [List.flatMap_map]
  have:∀l:List Nat,(l.flatMap fun i=>[i])=l:=fun l=>by induction l<;>simp_all
  rw [this]
 ·unfold leaves
  rw [List.map_map]
  exact sum_usedI cs
structure LOk (cs out:List Nat) (d:Nat):Prop where
 len:out.length=cs.length
 pos:∀i,0<cs.getD i 0↔0<out.getD i 0
 le:∀n∈out,n≤d
 ok:kraft out=32768∨used out=1∧kraft out=16384
theorem usedI_congr (cs out:List Nat) (h:out.length=cs.length) (hp:∀i,0<cs.getD i 0↔0<out.getD i 0):usedI out=usedI cs:=by
 unfold usedI
 rw [h]
 exact List.filter_congr fun i _=>by simp only [decide_eq_decide];exact (hp i).symm
theorem sumB_pos (out:List Nat):∀S:List Nat,S≠[]→0<sumB out S
 | [],h=>absurd rfl h
 | s::S,_=>by
  have:=Nat.two_pow_pos (15-out.getD s 0)
  simp only [sumB,List.map_cons,List.sum_cons];omega
theorem huffM_ok (cs:List Nat) (h0:usedI cs≠[]) (ht:cs.sum≤400):∃d,d≤12∧LOk cs (huffM cs) d∧(d≤1∨fibN (d+2)≤cs.sum):=by
 have hU:=usedI_nodup cs
 by_cases h1:(usedI cs).length=1
 ·obtain ⟨k,hk⟩:=List.length_eq_one_iff.1 h1
  have hm:k<cs.length∧0<cs.getD k 0:=(mem_usedI cs k).1 (by rw [hk];simp)
  have e:huffM cs=(List.replicate cs.length 0).set k 1:=by unfold huffM;rw [if_pos h1,hk];rfl
  have hlen:(huffM cs).length=cs.length:=by rw [e];simp
  have hget:∀i,(huffM cs).getD i 0=if i=k then 1 else 0:=fun i=>by
   rw [e]
   by_cases hi:i<cs.length
   ·rw [getD_in (by simpa using hi),List.getElem_set]
    by_cases c:k=i
    ·rw [if_pos c,if_pos c.symm]
    ·rw [if_neg c,if_neg (fun x=>c x.symm)];simp
   ·rw [if_neg (by omega)]
    simp [List.getD,Nat.le_of_not_lt hi]
  have hpos:∀i,0<cs.getD i 0↔0<(huffM cs).getD i 0:=fun i=>by
   rw [hget i]
   constructor
   ·intro h
    have hi:i<cs.length:=by
     rcases Nat.lt_or_ge i cs.length with h' | h'
     ·exact h'
     ·rw [show cs.getD i 0=0 by simp [List.getD,h']] at h;omega
    have:i∈usedI cs:=(mem_usedI cs i).2 ⟨hi,h⟩
    rw [hk] at this
    rw [if_pos (by simpa using this)];omega
   ·intro h
    by_cases c:i=k
    ·rw [c];exact hm.2
    ·rw [if_neg c] at h;omega
  have hc:=usedI_congr cs (huffM cs) hlen hpos
  refine ⟨1,by omega,⟨hlen,hpos,fun n hn=>?_,.inr ⟨by rw [used_usedI,hc];exact h1,?_⟩⟩,.inl (Nat.le_refl _)⟩
  ·obtain ⟨j,hj,rfl⟩:=List.getElem_of_mem hn
   have:=hget j
   rw [getD_in hj] at this
   rw [this];split<;>omega
  ·rw [kraft_usedI,hc,hk]
   simp only [sumB,List.map_cons,List.map_nil,List.sum_cons,List.sum_nil,hget,if_true];rfl
 ·have hn:0<(usedI cs).length:=List.length_pos_iff.2 h0
  have e:huffM cs=huffGo ((usedI cs).length-1) (List.replicate cs.length 0) (leaves cs):=by unfold huffM;rw [if_neg h1]
  obtain ⟨l1,l2,t,T',hI⟩:=huffGo_spec hU ht ((usedI cs).length-1) (List.replicate cs.length 0) (leaves cs) 0 (by simp [leaves];omega) (leaves_inv cs)
  rw [←e] at l1 l2 hI
  rw [List.length_replicate] at l1 l2
  have tok:=hI.all t (by simp)
  obtain ⟨d,d1,d2,d3⟩:=tok.dep
  have hts:t.1=cs.sum:=by simpa using hI.sum
  have hpp:t.2.2.Perm (usedI cs):=by simpa using hI.perm
  have hkr:sumB (huffM cs) (usedI cs)=32768:=by
   have:=sum_perm (fun s=>2^(15-(huffM cs).getD s 0)) hpp
   unfold sumB;rw [←this];exact tok.kr
  have hd:d≤12:=fibN_deep d2 (by omega)
  have hpos:∀i,0<cs.getD i 0↔0<(huffM cs).getD i 0:=fun i=>by
   constructor
   ·intro h
    have hi:i<cs.length:=by
     rcases Nat.lt_or_ge i cs.length with h' | h'
     ·exact h'
     ·rw [show cs.getD i 0=0 by simp [List.getD,h']] at h;omega
    have hmem:i∈usedI cs:=(mem_usedI cs i).2 ⟨hi,h⟩
    rcases Nat.eq_zero_or_pos ((huffM cs).getD i 0) with hz | hz
    ·obtain ⟨a,b,hab⟩:=List.append_of_mem hmem
     rw [hab,sumB_append] at hkr
     have ec:sumB (huffM cs) (i::b)=32768+sumB (huffM cs) b:=by simp only [sumB,List.map_cons,List.sum_cons,hz]
     have ha:a=[]:=by
      rcases Classical.em (a=[]) with h' | h'
      ·exact h'
      ·have:=sumB_pos (huffM cs) a h';omega
     have hb:b=[]:=by
      rcases Classical.em (b=[]) with h' | h'
      ·exact h'
      ·have:=sumB_pos (huffM cs) b h';omega
     rw [hab,ha,hb] at h1
     exact absurd rfl h1
    ·exact hz
   ·intro h
    rcases Nat.lt_or_ge i cs.length with hi | hi
    ·rcases Classical.em (i∈usedI cs) with hm | hm
     ·exact ((mem_usedI cs i).1 hm).2
     ·rw [l2 i hi hm,replicate_getD] at h;omega
    ·rw [show (huffM cs).getD i 0=0 by simp [List.getD,l1,hi]] at h;omega
  have hc:=usedI_congr cs (huffM cs) l1 hpos
  refine ⟨d,hd,⟨l1,hpos,fun n hn=>?_,.inl (by rw [kraft_usedI,hc];exact hkr)⟩,.inr (by rw [←hts];exact d2)⟩
  obtain ⟨j,hj,rfl⟩:=List.getElem_of_mem hn
  rcases Classical.em (j∈usedI cs) with hm | hm
  ·have:=d1 j (hpp.mem_iff.2 hm)
   rwa [getD_in hj] at this
  ·have:=l2 j (by omega) hm
   rw [getD_in hj,replicate_getD] at this
   omega
end Ev
end
section
namespace Ev
open Go
def zH (e:HT):Int×Int×List Int:=((e.1:Int),(e.2.1:Int),zs e.2.2)
theorem zH_get (L:List HT) (i:Nat):(L.map zH).getD i (0,0,[])=zH (L.getD i HT.d):=by
 simp only [List.getD_eq_getElem?_getD,List.getElem?_map]
 cases L[i]?<;>rfl
theorem lt_cond (a b c d:Nat):(bif decide ((a:Int)<(b:Int)) then some true else bif ((a:Int)==(b:Int)) then some (decide ((c:Int)<(d:Int))) else some false)=some (decide (a<b)||(decide (a=b)&&decide (c<d))):=by
 by_cases h1:a<b
 ·rw [decide_eq_true (show (a:Int)<(b:Int) by omega),decide_eq_true h1];rfl
 ·rw [decide_eq_false (show ¬(a:Int)<(b:Int) by omega),decide_eq_false h1]
  by_cases h2:a=b
  ·subst h2
   rw [show ((a:Int)==(a:Int))=true by simp,decide_eq_true (rfl:a=a),cond_false,cond_true,Bool.false_or,Bool.true_and]
   congr 1
   simp
  ·rw [show ((a:Int)==(b:Int))=false by simp;omega,decide_eq_false h2];rfl
theorem lt_condH (x y:HT):(bif decide ((zH x).1<(zH y).1) then some true else bif ((zH x).1==(zH y).1) then some (decide ((zH x).2.1<(zH y).2.1)) else some false)=some (ltH x y):=lt_cond x.1 y.1 x.2.1 y.2.1
theorem l3Least_l0 (L:List HT) (hn:L.length≤1000):∀(j a i:Nat),i+j=L.length→a<L.length→l3Least.l0 (j+1) (L.map zH,(a:Int),(i:Int))=some (leastH L j a i:Int)
 | 0,a,i,h,ha=>by
  rw [l3Least.l0.succ];simp only [l3Least.l0.step,List.length_map]
  rw [idx_ge (by omega)];rfl
 | j+1,a,i,h,ha=>by
  have hi:i<L.length:=by omega
  rw [l3Least.l0.succ];simp only [l3Least.l0.step,List.length_map]
  rw [idx_lt hi,cond_true,need_true _ idx_in',need_true _ (idx_in ha),need_true _ idx_in',need_true _ (idx_in ha),need_true _ idx_in',need_true _ (idx_in ha),Int.toNat_natCast,Int.toNat_natCast,zH_get,zH_get]
  rw [lt_condH,w64_id (by omega) (by omega),show (i:Int)+1=((i+1:Nat):Int) by omega,leastH]
  simp only [bind_go]
  cases ltH (L.getD i HT.d) (L.getD a HT.d)
  ·exact l3Least_l0 L hn j a (i+1) (by omega) ha
  ·exact l3Least_l0 L hn j i (i+1) (by omega) hi
theorem l3Least_eq (L:List HT) (hn:L.length≤1000) (h0:0<L.length):l3Least (L.map zH)=some (lst L:Int):=by
 unfold l3Least
 rw [List.length_map,show (((L.length:Int)-1).toNat+1)=(L.length-1)+1 by omega]
 have:=l3Least_l0 L hn (L.length-1) 0 1 (by omega) h0
 rw [show ((0:Nat):Int)=0 from rfl,show ((1:Nat):Int)=1 from rfl] at this
 rw [this];rfl
theorem l3Less_eq (L:List HT) (hn:L.length≤1000) (k:Nat) (hk:k<L.length):l3Less (L.map zH) (k:Int)=some ((less L k).map zH):=by
 unfold l3Less
 rw [w64_id (by omega) (by omega),show (k:Int)+1=((k+1:Nat):Int) by omega,Int.toNat_natCast,Int.toNat_natCast]
 rw [need_true _ (by simp;omega),need_fits (by simp;omega),need_true _ (by simp;omega),need_fits (by simp;omega)]
 simp only [less,List.nil_append,List.map_append,List.map_take,List.map_drop]
theorem l3Lens_l1 (f:Int) (list:List (Int×Int×List Int)) (p1 p2:Int) (p3:List Int) (q1 q2:Int) (q3:List Int) (out S:List Nat) (hS:∀s∈S,s<out.length∧out.getD s 0≤1000) (hn:S.length≤1000):∀(j i:Nat),i+j=S.length→
  l3Lens.l1 (j+1) (f,(i:Int),zs (bump out (S.take i)),list,p1,p2,p3,q1,q2,q3,zs S)=some (f,zs (bump out S),list,p1,p2,p3,q1,q2,q3,zs S)
 | 0,i,h=>by
  rw [l3Lens.l1.succ];simp only [l3Lens.l1.step,zs_length]
  rw [idx_ge (by omega),List.take_of_length_le (by omega)];rfl
 | j+1,i,h=>by
  have hi:i<S.length:=by omega
  have hg:S.getD i 0=S[i]:=getD_in hi
  obtain ⟨h1,h2⟩:=hS S[i] (List.getElem_mem hi)
  have hb:=bump_getD out (S.take i) S[i] h1
  have hc:=List.count_le_length (a:=S[i]) (l:=S.take i)
  rw [List.length_take] at hc
  rw [l3Lens.l1.succ];simp only [l3Lens.l1.step,zs_length,bump_length]
  rw [idx_lt hi,cond_true,need_true _ idx_in',need_true _ idx_in',Int.toNat_natCast,zs_getD,hg,need_true _ (idx_in h1),need_true _ (idx_in h1),Int.toNat_natCast,zs_getD,
   w64_id (n:=(((bump out (S.take i)).getD S[i] 0:Nat):Int)+1) (by omega) (by omega),show (((bump out (S.take i)).getD S[i] 0:Nat):Int)+1=(((bump out (S.take i)).getD S[i] 0+1:Nat):Int) by omega,zs_set,
   ←bump_snoc out (S.take i) S[i] h1,←List.take_succ_eq_append_getElem hi,w64_id (by omega) (by omega),show (i:Int)+1=((i+1:Nat):Int) by omega]
  exact l3Lens_l1 f list p1 p2 p3 q1 q2 q3 out S hS hn j (i+1) (by omega)
theorem zH_join (a b:HT):zH (joinT a b)=(((a.1+b.1:Nat):Int),(if b.2.1<a.2.1 then ((b.2.1:Nat):Int) else ((a.2.1:Nat):Int)),zs (a.2.2++b.2.2)):=by
 unfold zH joinT
 dsimp only
 split<;>rfl
theorem HInv.some {out:List Nat} {l:List HT} {T:Nat} {U:List Nat} {tot:Nat} (h:HInv out l T U tot) (ht:tot≤400) (hU:U.length≤400) (e:HT) (he:e∈l):e.1≤400∧e.2.2.length≤400∧e.2.1<out.length∧∀s∈e.2.2,s<out.length∧out.getD s 0≤1000:=by
 have hk:=h.all e he
 have h1:e.1≤tot:=by
  rw [←h.sum]
  obtain ⟨a,b,rfl⟩:=List.append_of_mem he
  simp;omega
 obtain ⟨d,d1,d2,d3⟩:=hk.dep
 have hd:=fibN_deep d2 (by omega)
 refine ⟨by omega,?_,hk.lt _ hk.fin,fun s hs=>⟨hk.lt s hs,by have:=d1 s hs;omega⟩⟩
 have:=h.perm.length_eq
 obtain ⟨a,b,rfl⟩:=List.append_of_mem he
 simp only [List.flatMap_append,List.flatMap_cons,List.length_append] at this
 omega
theorem l3Lens_l2 {U:List Nat} {tot:Nat} (hU:U.Nodup) (htot:tot≤400) (hUl:U.length≤400):∀(n:Nat) (out:List Nat) (L:List HT) (T:Nat),L.length≤n+1→L.length≤400→HInv out L T U tot→
  l3Lens.l2 (n+1) (zs out,L.map zH)=some (zs (huffGo n out L))
 | 0,out,L,T,hl,hl2,h=>by
  rw [l3Lens.l2.succ];simp only [l3Lens.l2.step,List.length_map]
  rw [decide_eq_false (by omega)];rfl
 | n+1,out,L,T,hl,hl2,h=>by
  rw [l3Lens.l2.succ];simp only [l3Lens.l2.step,List.length_map]
  by_cases h1:1<L.length
  ·obtain ⟨hnx,hnl⟩:=h.next hU htot h1
   obtain ⟨pp,_,_,hrl⟩:=pairA L h1
   obtain ⟨k1,_⟩:=lst_spec L (by omega)
   have n1:=less_length L (lst L) k1
   obtain ⟨k2,_⟩:=lst_spec (less L (lst L)) (by omega)
   obtain ⟨a1,a2,a3,a4⟩:=h.some htot hUl (fstA L) (pp.mem_iff.2 (by simp))
   obtain ⟨b1,b2,b3,b4⟩:=h.some htot hUl (sndA L) (pp.mem_iff.2 (by simp))
   have hrest:less (less L (lst L)) (lst (less L (lst L)))=restA L:=rfl
   have hf:L.getD (lst L) HT.d=fstA L:=rfl
   have hs:(less L (lst L)).getD (lst (less L (lst L))) HT.d=sndA L:=rfl
   rw [huffGo,if_pos h1,decide_eq_true (by omega),cond_true,l3Least_eq L (by omega) (by omega)]
   simp only [bind_go]
   rw [need_true _ (idx_in k1),l3Less_eq L (by omega) _ k1]
   simp only [bind_go]
   rw [l3Least_eq _ (by omega) (by omega)]
   simp only [bind_go,List.length_map]
   rw [need_true _ (idx_in k2),l3Less_eq _ (by omega) _ k2,Int.toNat_natCast,Int.toNat_natCast,zH_get,zH_get,hf,hs,hrest]
   simp only [bind_go]
   have hin:∀f:Int,l3Lens.l1 (((fstA L).2.2++(sndA L).2.2).length+1) (f,0,zs out,(restA L).map zH,(zH (fstA L)).1,(zH (fstA L)).2.1,(zH (fstA L)).2.2,(zH (sndA L)).1,(zH (sndA L)).2.1,(zH (sndA L)).2.2,zs ((fstA L).2.2++(sndA L).2.2)) =
     some (f,zs (bump out ((fstA L).2.2++(sndA L).2.2)),(restA L).map zH,(zH (fstA L)).1,(zH (fstA L)).2.1,(zH (fstA L)).2.2,(zH (sndA L)).1,(zH (sndA L)).2.1,(zH (sndA L)).2.2,zs ((fstA L).2.2++(sndA L).2.2)):=fun f=>by
    have:=l3Lens_l1 f ((restA L).map zH) (zH (fstA L)).1 (zH (fstA L)).2.1 (zH (fstA L)).2.2 (zH (sndA L)).1 (zH (sndA L)).2.1 (zH (sndA L)).2.2 out ((fstA L).2.2++(sndA L).2.2)
     (fun s hs=>(List.mem_append.1 hs).elim (a4 s) (b4 s)) (by rw [List.length_append];omega) _ 0 (Nat.zero_add _)
    rw [List.take_zero,bump_nil] at this
    exact this
   have ih:=l3Lens_l2 hU htot hUl n _ _ _ (by omega) (by omega) hnx
   have hcat:([]++(zH (fstA L)).2.2)++(zH (sndA L)).2.2=zs ((fstA L).2.2++(sndA L).2.2):=by rw [List.nil_append,zs_append];rfl
   have la:(zH (fstA L)).2.2.length=(fstA L).2.2.length:=zs_length _
   have lb:(zH (sndA L)).2.2.length=(sndA L).2.2.length:=zs_length _
   have hw:w64 ((zH (fstA L)).1+(zH (sndA L)).1)=(((fstA L).1+(sndA L).1:Nat):Int):=by
    show w64 (((fstA L).1:Int)+((sndA L).1:Int))=_
    rw [w64_id (by omega) (by omega)];omega
   rw [←ih,List.map_append,List.map_cons,List.map_nil,zH_join]
   have hdec:decide ((zH (sndA L)).2.1<(zH (fstA L)).2.1)=decide ((sndA L).2.1<(fstA L).2.1):=by simp [zH]
   rw [hdec]
   by_cases hc:(sndA L).2.1<(fstA L).2.1
   ·rw [decide_eq_true hc,if_pos hc,cond_true]
    simp only [bind_go]
    rw [need_fits (by rw [la,List.length_nil];omega),need_fits (by rw [List.length_append,la,lb,List.length_nil];omega),hcat,zs_length,fuel_of,hin]
    simp only [bind_go]
    rw [need_fits (by simp;omega),hw]
    rfl
   ·rw [decide_eq_false hc,if_neg hc,cond_false]
    simp only [bind_go]
    rw [need_fits (by rw [la,List.length_nil];omega),need_fits (by rw [List.length_append,la,lb,List.length_nil];omega),hcat,zs_length,fuel_of,hin]
    simp only [bind_go]
    rw [need_fits (by simp;omega),hw]
    rfl
  ·rw [huffGo,if_neg h1,decide_eq_false (by omega)];rfl
theorem l3Lens_l0 (cs:List Nat) (hn:cs.length≤1000) (out:List Int):∀(j i:Nat) (acc:List HT),i+j=cs.length→acc.length≤i→
  l3Lens.l0 (j+1) (zs cs,(i:Int),out,acc.map zH)=some (out,(acc++((List.range' i j).filter fun i=>decide (0<cs.getD i 0)).map fun i=>(cs.getD i 0,i,[i])).map zH)
 | 0,i,acc,h,ha=>by
  rw [l3Lens.l0.succ];simp only [l3Lens.l0.step,zs_length]
  rw [idx_ge (by omega)];simp
 | j+1,i,acc,h,ha=>by
  have hi:i<cs.length:=by omega
  rw [l3Lens.l0.succ];simp only [l3Lens.l0.step,zs_length]
  rw [idx_lt hi,cond_true,need_true _ idx_in',need_true _ idx_in',Int.toNat_natCast,zs_getD,need_fits (by simp;omega),w64_id (by omega) (by omega),show (i:Int)+1=((i+1:Nat):Int) by omega,List.range'_succ,List.filter_cons]
  by_cases c:0<cs.getD i 0
  ·rw [decide_eq_true (by omega),cond_true,if_pos (decide_eq_true c)]
   have:=l3Lens_l0 cs hn out j (i+1) (acc++[(cs.getD i 0,i,[i])]) (by omega) (by simp;omega)
   rw [List.map_append] at this
   rw [show acc.map zH++[(((cs.getD i 0:Nat):Int),(i:Int),[(i:Int)])]=acc.map zH++[(cs.getD i 0,i,[i])].map zH from rfl,this]
   simp
  ·rw [decide_eq_false (by omega),cond_false,if_neg (by simpa using c)]
   exact l3Lens_l0 cs hn out j (i+1) acc (by omega) (by omega)
theorem leaves_length (cs:List Nat):(leaves cs).length=(usedI cs).length:=by simp [leaves]
theorem usedI_length (cs:List Nat):(usedI cs).length≤cs.length:=by
 have:=List.length_filter_le (fun i=>decide (0<cs.getD i 0)) (List.range cs.length)
 rw [List.length_range] at this
 exact this
theorem l3Lens_eq (cs:List Nat) (hn:cs.length≤400) (ht:cs.sum≤400):l3Lens (zs cs)=some (zs (huffM cs)):=by
 have hl:=usedI_length cs
 have h0:=l3Lens_l0 cs (by omega) (zs (List.replicate cs.length 0)) cs.length 0 [] (by omega) (by simp)
 have h2:=l3Lens_l2 (usedI_nodup cs) ht (by omega) ((usedI cs).length-1) _ _ _ (by rw [leaves_length];omega) (by rw [leaves_length];omega) (leaves_inv cs)
 have el:((List.range' 0 cs.length).filter fun i=>decide (0<cs.getD i 0)).map (fun i=>(cs.getD i 0,i,[i]))=leaves cs:=by
  rw [←List.range_eq_range'];rfl
 rw [el,List.nil_append,show ((0:Nat):Int)=0 from rfl,show ([]:List HT).map zH=[] from rfl] at h0
 unfold l3Lens
 rw [zs_length,need_decf (by omega) (by rw [Int.toNat_natCast];omega),Int.toNat_natCast,fuel_of,show List.replicate cs.length (0:Int)=zs (List.replicate cs.length 0) from zs_replicate _ 0,h0]
 simp only [bind_go]
 rw [List.length_map,leaves_length]
 unfold huffM
 by_cases h1:(usedI cs).length=1
 ·obtain ⟨k,hk⟩:=List.length_eq_one_iff.1 h1
  have hm:k<cs.length∧0<cs.getD k 0:=(mem_usedI cs k).1 (by rw [hk];simp)
  have eL:leaves cs=[(cs.getD k 0,k,[k])]:=by unfold leaves;rw [hk];rfl
  rw [if_pos h1,h1,eL,hk]
  rw [show (((1:Nat):Int)==1)=true from rfl,cond_true]
  simp only [List.map_cons,List.map_nil,zH,List.length_cons,List.length_nil,List.getD_cons_zero]
  rw [need_true _ (by decide),need_true _ (by rw [zs_length,List.length_replicate];exact idx_in hm.1),Int.toNat_natCast,show (1:Int)=((1:Nat):Int) from rfl,zs_set]
  rfl
 ·rw [if_neg h1,show (((usedI cs).length:Int)==1)=false by simp;omega,cond_false]
  simp only [bind_go]
  rw [List.length_map,leaves_length,show ((((usedI cs).length:Int)-1).toNat+1)=(usedI cs).length-1+1 by omega,h2]
  rfl
end Ev
end
section
namespace Ev
open Go
abbrev QT:=HT×List Nat
def QT.d:QT:=(HT.d,[])
def zQ (q:QT):Int×List Int:=((q.1.1:Int),zs q.2)
def QOk (q:QT):Prop:=q.2.Perm q.1.2.2∧q.2.getD 0 0=q.1.2.1∧0<q.2.length
theorem zQ_get (Q:List QT) (i:Nat):(Q.map zQ).getD i (0,[])=zQ (Q.getD i QT.d):=by
 simp only [List.getD_eq_getElem?_getD,List.getElem?_map]
 cases Q[i]?<;>rfl
theorem fstQ_get (Q:List QT) (i:Nat):(Q.map Prod.fst).getD i HT.d=(Q.getD i QT.d).1:=by
 simp only [List.getD_eq_getElem?_getD,List.getElem?_map]
 cases Q[i]?<;>rfl
theorem lt_condQ (x y:QT) (hx:QOk x) (hy:QOk y):(bif decide ((zQ x).1<(zQ y).1) then some true else bif ((zQ x).1==(zQ y).1) then some (decide (((zQ x).2).getD 0 0<((zQ y).2).getD 0 0)) else some false)=some (ltH x.1 y.1):=by
 have ex:((zQ x).2).getD 0 0=(x.1.2.1:Int):=by unfold zQ;rw [zs_getD,hx.2.1]
 have ey:((zQ y).2).getD 0 0=(y.1.2.1:Int):=by unfold zQ;rw [zs_getD,hy.2.1]
 rw [ex,ey]
 exact lt_cond x.1.1 y.1.1 x.1.2.1 y.1.2.1
theorem QOk.idx {x:QT} (h:QOk x):(decide ((0:Int)≤0)&&decide ((0:Int)<((zQ x).2).length))=true:=by
 have:=h.2.2
 unfold zQ
 simp [zs_length];omega
theorem least_l0 (Q:List QT) (hn:Q.length≤1000) (hQ:∀q∈Q,QOk q) (o:Int) (o1:List Int):∀(j a i:Nat),i+j=Q.length→a<Q.length→
  least.l0 (j+1) (Q.map zQ,(a:Int),Q.map zQ,(Q.length:Int),(i:Int),o,o1)=some (Q.map zQ,(leastH (Q.map Prod.fst) j a i:Int),o,o1)
 | 0,a,i,h,ha=>by
  rw [least.l0.succ];simp only [least.l0.step]
  rw [idx_ge (by omega)];rfl
 | j+1,a,i,h,ha=>by
  have hi:i<Q.length:=by omega
  have qi:QOk (Q.getD i QT.d):=by rw [getD_in hi];exact hQ _ (List.getElem_mem hi)
  have qa:QOk (Q.getD a QT.d):=by rw [getD_in ha];exact hQ _ (List.getElem_mem ha)
  rw [least.l0.succ];simp only [least.l0.step,List.length_map]
  rw [idx_lt hi,cond_true,need_true _ idx_in',need_true _ (idx_in ha),need_true _ (idx_in ha),Int.toNat_natCast,Int.toNat_natCast,zQ_get,zQ_get,need_true _ qi.idx,need_true _ (idx_in ha),need_true _ qa.idx]
  rw [lt_condQ _ _ qi qa,w64_id (by omega) (by omega),show (i:Int)+1=((i+1:Nat):Int) by omega,leastH,fstQ_get,fstQ_get]
  simp only [bind_go]
  cases ltH (Q.getD i QT.d).1 (Q.getD a QT.d).1
  ·exact least_l0 Q hn hQ o o1 j a (i+1) (by omega) ha
  ·exact least_l0 Q hn hQ o o1 j i (i+1) (by omega) hi
theorem lst_zero (L:List HT) (h:0<L.length):leastH L L.length 0 0=lst L:=by
 obtain ⟨n,hn⟩:∃n,L.length=n+1:=⟨L.length-1,by omega⟩
 have e:ltH (L.getD 0 HT.d) (L.getD 0 HT.d)=false:=by simp [ltH]
 unfold lst
 rw [hn,leastH,e];rfl
def lessQ (Q:List QT) (k:Nat):List QT:=Q.take k++Q.drop (k+1)
theorem least_eq (Q:List QT) (hn:Q.length≤1000) (hQ:∀q∈Q,QOk q) (h0:0<Q.length) :
  least (Q.map zQ)=some ((zQ (Q.getD (lst (Q.map Prod.fst)) QT.d)).1,(zQ (Q.getD (lst (Q.map Prod.fst)) QT.d)).2,(lessQ Q (lst (Q.map Prod.fst))).map zQ):=by
 have hk:=(lst_spec (Q.map Prod.fst) (by simpa using h0)).1
 rw [List.length_map] at hk
 have hz:=lst_zero (Q.map Prod.fst) (by simpa using h0)
 rw [List.length_map] at hz
 have:=least_l0 Q hn hQ 0 [] Q.length 0 0 (by omega) h0
 rw [hz,show ((0:Nat):Int)=0 from rfl] at this
 unfold least
 rw [List.length_map,fuel_of,this]
 simp only [bind_go,List.length_map]
 generalize lst (Q.map Prod.fst)=k at hk
 rw [w64_id (n:=(k:Int)+1) (by omega) (by omega),show (k:Int)+1=((k+1:Nat):Int) by omega,Int.toNat_natCast,Int.toNat_natCast]
 rw [need_true _ (idx_in hk),need_true _ (by simp;omega),need_fits (by simp;omega),need_true _ (by simp;omega),need_fits (by simp;omega),zQ_get]
 simp only [lessQ,List.nil_append,List.map_append,List.map_take,List.map_drop]
theorem lessQ_fst (Q:List QT) (k:Nat):(lessQ Q k).map Prod.fst=less (Q.map Prod.fst) k:=by simp [lessQ,less,List.map_take,List.map_drop]
theorem lessQ_mem {Q:List QT} {k:Nat} {q:QT} (h:q∈lessQ Q k):q∈Q:=by
 rcases List.mem_append.1 h with h | h
 ·exact List.mem_of_mem_take h
 ·exact List.mem_of_mem_drop h
structure SwOk (S C:List Nat) (k:Nat):Prop where
 perm:C.Perm S
 rest:∀i,k≤i→C.getD i 0=S.getD i 0
 low:∀j,j<k→C.getD 0 0≤S.getD j 0
theorem depths_l1 (o:Int) (o1:List Int) (o2:Int) (o3:List Int) (left:List (Int×List Int)) (out S:List Nat) (hS:∀s∈S,s<out.length∧out.getD s 0≤1000) (hn:S.length≤1000):∀(j i:Nat) (C:List Nat),i+j=S.length→SwOk S C i→
  Ret (depths.l1 (j+1) ((S.length:Int),(i:Int),zs (bump out (S.take i)),o,o1,o2,o3,left,zs C)) fun r=>∃C',r=(zs (bump out S),o,o1,o2,o3,left,zs C')∧SwOk S C' S.length
 | 0,i,C,h,hC=>by
  have:i=S.length:=by omega
  subst this
  rw [depths.l1.succ];simp only [depths.l1.step]
  rw [idx_ge (by omega),List.take_of_length_le (by omega)]
  exact .pure ⟨C,rfl,hC⟩
 | j+1,i,C,h,hC=>by
  have hi:i<S.length:=by omega
  have hcl:C.length=S.length:=hC.perm.length_eq
  have hg:S.getD i 0=S[i]:=getD_in hi
  have hgc:C.getD i 0=S[i]:=(hC.rest i (Nat.le_refl _)).trans hg
  obtain ⟨h1,h2⟩:=hS S[i] (List.getElem_mem hi)
  have hb:=bump_getD out (S.take i) S[i] h1
  have hc:=List.count_le_length (a:=S[i]) (l:=S.take i)
  rw [List.length_take] at hc
  rw [depths.l1.succ];simp only [depths.l1.step,zs_length,bump_length,List.length_set]
  rw [idx_lt hi,cond_true,need_true _ (idx_in (by omega)),Int.toNat_natCast,zs_getD,hgc,need_true _ (idx_in h1),need_true _ (idx_in h1),need_true _ (by simp;omega),Int.toNat_natCast,zs_getD,zs_getD,
   w64_id (n:=(((bump out (S.take i)).getD S[i] 0:Nat):Int)+1) (by omega) (by omega),show (((bump out (S.take i)).getD S[i] 0:Nat):Int)+1=(((bump out (S.take i)).getD S[i] 0+1:Nat):Int) by omega,zs_set,
   ←bump_snoc out (S.take i) S[i] h1,←List.take_succ_eq_append_getElem hi,w64_id (by omega) (by omega),show (i:Int)+1=((i+1:Nat):Int) by omega]
  by_cases c:S[i]<C.getD 0 0
  ·have hi0:i≠0:=by
    intro e;subst e
    rw [hgc] at c;omega
   rw [decide_eq_true (by omega),cond_true,need_true _ (by simp;omega),need_true _ (by simp;omega),need_true _ (idx_in (by omega)),zs_set,zs_set]
   refine depths_l1 o o1 o2 o3 left out S hS hn j (i+1) _ (by omega) ⟨?_,fun k hk=>?_,fun k hk=>?_⟩
   ·have hp:=@List.set_set_perm Nat C 0 i (by omega) (by omega)
    rw [getD_in (by omega)] at hgc
    rw [getD_in (by omega:0<C.length),←hgc]
    exact hp.trans hC.perm
   ·rw [←hC.rest k (by omega)]
    simp only [List.getD_eq_getElem?_getD,List.getElem?_set]
    rw [if_neg (by omega),if_neg (by omega)]
   ·have e0:((C.set 0 S[i]).set i (C.getD 0 0)).getD 0 0=S[i]:=by
     rw [getD_in (by simp;omega),List.getElem_set,if_neg hi0,List.getElem_set,if_pos rfl]
    rw [e0]
    by_cases e:k=i
    ·subst e;rw [hg];exact Nat.le_refl _
    ·have:=hC.low k (by omega);omega
  ·rw [decide_eq_false (by omega),cond_false]
   refine depths_l1 o o1 o2 o3 left out S hS hn j (i+1) C (by omega) ⟨hC.perm,fun k hk=>hC.rest k (by omega),fun k hk=>?_⟩
   by_cases e:k=i
   ·subst e;rw [hg];omega
   ·exact hC.low k (by omega)
theorem depths_l2 {U:List Nat} {tot:Nat} (hU:U.Nodup) (htot:tot≤400) (hUl:U.length≤400):∀(n:Nat) (out:List Nat) (Q:List QT) (T:Nat),Q.length≤n+1→Q.length≤400→(∀q∈Q,QOk q)→HInv out (Q.map Prod.fst) T U tot→
  depths.l2 (n+1) (zs out,Q.map zQ)=some (zs (huffGo n out (Q.map Prod.fst)))
 | 0,out,Q,T,hl,hl2,hQ,h=>by
  rw [depths.l2.succ];simp only [depths.l2.step,List.length_map]
  rw [decide_eq_false (by omega)];rfl
 | n+1,out,Q,T,hl,hl2,hQ,h=>by
  rw [depths.l2.succ];simp only [depths.l2.step,List.length_map]
  by_cases h1:1<Q.length
  ·have h1':1<(Q.map Prod.fst).length:=by rw [List.length_map];exact h1
   obtain ⟨hnx,hnl⟩:=h.next hU htot h1'
   obtain ⟨pp,_,_,hrl⟩:=pairA _ h1'
   obtain ⟨k1,_⟩:=lst_spec (Q.map Prod.fst) (by omega)
   have n1:=less_length _ _ k1
   obtain ⟨k2,_⟩:=lst_spec (less (Q.map Prod.fst) (lst (Q.map Prod.fst))) (by omega)
   obtain ⟨a1,a2,a3,a4⟩:=h.some htot hUl (fstA (Q.map Prod.fst)) (pp.mem_iff.2 (by simp))
   obtain ⟨b1,b2,b3,b4⟩:=h.some htot hUl (sndA (Q.map Prod.fst)) (pp.mem_iff.2 (by simp))
   have l1:=least_eq Q (by omega) hQ (by omega)
   have f1:=lessQ_fst Q (lst (Q.map Prod.fst))
   have len1:(lessQ Q (lst (Q.map Prod.fst))).length+1=Q.length:=by
    have:=congrArg List.length f1;rw [List.length_map] at this;rw [this,n1,List.length_map]
   have l2:=least_eq (lessQ Q (lst (Q.map Prod.fst))) (by omega) (fun q hq=>hQ q (lessQ_mem hq)) (by omega)
   have f2:=lessQ_fst (lessQ Q (lst (Q.map Prod.fst))) (lst ((lessQ Q (lst (Q.map Prod.fst))).map Prod.fst))
   rw [f1] at l2 f2
   have ga:(Q.getD (lst (Q.map Prod.fst)) QT.d).1=fstA (Q.map Prod.fst):=(fstQ_get Q _).symm
   have gb:((lessQ Q (lst (Q.map Prod.fst))).getD (lst (less (Q.map Prod.fst) (lst (Q.map Prod.fst)))) QT.d).1=sndA (Q.map Prod.fst):=by rw [←fstQ_get,f1];rfl
   have qa:QOk (Q.getD (lst (Q.map Prod.fst)) QT.d):=by rw [List.length_map] at k1;rw [getD_in k1];exact hQ _ (List.getElem_mem _)
   have qb:QOk ((lessQ Q (lst (Q.map Prod.fst))).getD (lst (less (Q.map Prod.fst) (lst (Q.map Prod.fst)))) QT.d):=by
    have:lst (less (Q.map Prod.fst) (lst (Q.map Prod.fst)))<(lessQ Q (lst (Q.map Prod.fst))).length:=by rw [←f1,List.length_map] at k2;rw [←f1];exact k2
    rw [getD_in this];exact hQ _ (lessQ_mem (List.getElem_mem _))
   have hrest:less (less (Q.map Prod.fst) (lst (Q.map Prod.fst))) (lst (less (Q.map Prod.fst) (lst (Q.map Prod.fst))))=restA (Q.map Prod.fst):=rfl
   rw [hrest] at f2
   rw [huffGo,if_pos h1',decide_eq_true (by omega),cond_true,l1]
   simp only [bind_go]
   rw [l2]
   simp only [bind_go]
   generalize Q.getD (lst (Q.map Prod.fst)) QT.d=A at ga qa
   generalize (lessQ Q (lst (Q.map Prod.fst))).getD (lst (less (Q.map Prod.fst) (lst (Q.map Prod.fst)))) QT.d=B at gb qb
   have hRm:∀q∈lessQ (lessQ Q (lst (Q.map Prod.fst))) (lst (less (Q.map Prod.fst) (lst (Q.map Prod.fst)))),QOk q:=fun q hq=>hQ q (lessQ_mem (lessQ_mem hq))
   generalize lessQ (lessQ Q (lst (Q.map Prod.fst))) (lst (less (Q.map Prod.fst) (lst (Q.map Prod.fst))))=R at f2 hRm
   rw [←ga] at a1 a2 a3 a4 hnx hnl ⊢
   rw [←gb] at b1 b2 b3 b4 hnx hnl ⊢
   rw [←f2] at hnx hnl ⊢
   clear l1 l2 f1 f2 pp hrest k1 k2
   have hSp:(A.2++B.2).Perm (A.1.2.2++B.1.2.2):=qa.1.append qb.1
   have hla:=qa.1.length_eq
   have hlb:=qb.1.length_eq
   have hcat:([]++(zQ A).2)++(zQ B).2=zs (A.2++B.2):=by rw [List.nil_append,zs_append];rfl
   have la:(zQ A).2.length=A.2.length:=zs_length _
   have lb:(zQ B).2.length=B.2.length:=zs_length _
   have hw:w64 ((zQ A).1+(zQ B).1)=((A.1.1+B.1.1:Nat):Int):=by
    show w64 ((A.1.1:Int)+(B.1.1:Int))=_
    rw [w64_id (by omega) (by omega)];omega
   obtain ⟨r,hr,C,rfl,hC⟩:=depths_l1 (zQ A).1 (zQ A).2 (zQ B).1 (zQ B).2 (R.map zQ) out (A.2++B.2) (fun s hs=>by
     rcases List.mem_append.1 (hSp.mem_iff.1 hs) with hs | hs
     ·exact a4 s hs
     ·exact b4 s hs) (by rw [List.length_append];omega) _ 0 (A.2++B.2) (Nat.zero_add _) ⟨.refl _,fun _ _=>rfl,fun j hj=>by omega⟩
   rw [List.take_zero,bump_nil] at hr
   rw [need_fits (by rw [la,List.length_nil];omega),need_fits (by rw [List.length_append,la,lb,List.length_nil];omega),hcat,zs_length,fuel_of,show (0:Int)=((0:Nat):Int) from rfl,hr]
   simp only [bind_go]
   rw [need_fits (by simp at hnl ⊢;omega),hw,bump_perm out hSp]
   have hj:=hnx.all (joinT A.1 B.1) (by simp)
   have hok:QOk (joinT A.1 B.1,C):=by
    refine ⟨hC.perm.trans hSp,?_,?_⟩
    ·have hCl:=hC.perm.length_eq
     have hpos:0<C.length:=by rw [hCl,List.length_append];have:=qa.2.2;omega
     apply Nat.le_antisymm
     ·have hm:(joinT A.1 B.1).2.1∈A.2++B.2:=hSp.mem_iff.2 hj.fin
      obtain ⟨j,hjl,hje⟩:=List.getElem_of_mem hm
      have:=hC.low j hjl
      rw [getD_in hjl,hje] at this
      exact this
     ·refine hj.fle _ ((hC.perm.trans hSp).mem_iff.1 ?_)
      rw [getD_in hpos];exact List.getElem_mem _
    ·rw [hC.perm.length_eq,List.length_append];have:=qa.2.2;omega
   have ih:=depths_l2 hU htot hUl n (bump out (A.1.2.2++B.1.2.2)) (R++[(joinT A.1 B.1,C)]) _ (by simp at hnl ⊢;omega) (by simp at hnl ⊢;omega) (fun q hq=>by
    rcases List.mem_append.1 hq with hq | hq
    ·exact hRm q hq
    ·have:q=(joinT A.1 B.1,C):=by simpa using hq
     subst this;exact hok) (by rw [List.map_append];exact hnx)
   rw [List.map_append,List.map_append] at ih
   exact ih
  ·rw [huffGo,if_neg (by rw [List.length_map];exact h1),decide_eq_false (by omega)];rfl
theorem depths_l0 (cs:List Nat) (hn:cs.length≤1000) (out:List Int):∀(j i:Nat) (acc:List QT),i+j=cs.length→acc.length≤i→
  depths.l0 (j+1) (zs cs,(cs.length:Int),(i:Int),out,acc.map zQ)=some (out,(acc++((List.range' i j).filter fun i=>decide (0<cs.getD i 0)).map fun i=>(((cs.getD i 0,i,[i]),[i]):QT)).map zQ)
 | 0,i,acc,h,ha=>by
  rw [depths.l0.succ];simp only [depths.l0.step,zs_length]
  rw [idx_ge (by omega)];simp
 | j+1,i,acc,h,ha=>by
  have hi:i<cs.length:=by omega
  rw [depths.l0.succ];simp only [depths.l0.step,zs_length]
  rw [idx_lt hi,cond_true,need_true _ idx_in',Int.toNat_natCast,zs_getD,need_fits (by simp;omega),w64_id (by omega) (by omega),show (i:Int)+1=((i+1:Nat):Int) by omega,List.range'_succ,List.filter_cons]
  by_cases c:0<cs.getD i 0
  ·rw [decide_eq_true (by omega),cond_true,if_pos (decide_eq_true c)]
   have:=depths_l0 cs hn out j (i+1) (acc++[((cs.getD i 0,i,[i]),[i])]) (by omega) (by simp;omega)
   rw [List.map_append] at this
   rw [show acc.map zQ++[(((cs.getD i 0:Nat):Int),[(i:Int)])]=acc.map zQ++[(((cs.getD i 0,i,[i]),[i]):QT)].map zQ from rfl,this]
   simp
  ·rw [decide_eq_false (by omega),cond_false,if_neg (by simpa using c)]
   exact depths_l0 cs hn out j (i+1) acc (by omega) (by omega)
def leavesQ (cs:List Nat):List QT:=(usedI cs).map fun i=>((cs.getD i 0,i,[i]),[i])
theorem depths_eq (cs:List Nat) (hn:cs.length≤400) (ht:cs.sum≤400):depths (zs cs)=some (zs (huffM cs)):=by
 have hl:=usedI_length cs
 have h0:=depths_l0 cs (by omega) (zs (List.replicate cs.length 0)) cs.length 0 [] (by omega) (by simp)
 have hfst:(leavesQ cs).map Prod.fst=leaves cs:=by unfold leavesQ leaves;rw [List.map_map];rfl
 have hlq:(leavesQ cs).length=(usedI cs).length:=by simp [leavesQ]
 have h2:=depths_l2 (usedI_nodup cs) ht (by omega) ((usedI cs).length-1) (List.replicate cs.length 0) (leavesQ cs) 0 (by omega) (by omega) (fun q hq=>by
  obtain ⟨i,_,rfl⟩:=List.mem_map.1 hq
  exact ⟨.refl _,rfl,by simp⟩) (by rw [hfst];exact leaves_inv cs)
 rw [hfst] at h2
 have el:((List.range' 0 cs.length).filter fun i=>decide (0<cs.getD i 0)).map (fun i=>(((cs.getD i 0,i,[i]),[i]):QT))=leavesQ cs:=by
  rw [←List.range_eq_range'];rfl
 rw [el,List.nil_append,show ((0:Nat):Int)=0 from rfl,show ([]:List QT).map zQ=[] from rfl] at h0
 unfold depths
 rw [zs_length,need_decf (by omega) (by rw [Int.toNat_natCast];omega),Int.toNat_natCast,fuel_of,show List.replicate cs.length (0:Int)=zs (List.replicate cs.length 0) from zs_replicate _ 0,h0]
 simp only [bind_go]
 rw [List.length_map,hlq]
 unfold huffM
 by_cases h1:(usedI cs).length=1
 ·obtain ⟨k,hk⟩:=List.length_eq_one_iff.1 h1
  have hm:k<cs.length∧0<cs.getD k 0:=(mem_usedI cs k).1 (by rw [hk];simp)
  have eL:leavesQ cs=[((cs.getD k 0,k,[k]),[k])]:=by unfold leavesQ;rw [hk];rfl
  rw [if_pos h1,h1,eL,hk]
  rw [show (((1:Nat):Int)==1)=true from rfl,cond_true]
  simp only [List.map_cons,List.map_nil,zQ,zs,List.length_cons,List.length_nil,List.getD_cons_zero]
  rw [need_true _ (by decide),need_true _ (by decide),need_true _ (by rw [List.length_map,List.length_replicate];exact idx_in hm.1),Int.toNat_natCast,show (1:Int)=((1:Nat):Int) from rfl]
  exact congrArg some (zs_set _ _ _)
 ·rw [if_neg h1,show (((usedI cs).length:Int)==1)=false by simp;omega,cond_false]
  rw [show ((((usedI cs).length:Int)-1).toNat+1)=(usedI cs).length-1+1 by omega,h2]
  rfl
end Ev
end
