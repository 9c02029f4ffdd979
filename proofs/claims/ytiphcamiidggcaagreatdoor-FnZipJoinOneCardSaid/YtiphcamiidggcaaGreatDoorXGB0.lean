/- Plain laws about what the functions compute. Conditions: as stated. -/
import Derived.KernelRfl
import Derived.Test.YtiphcamiidggcaaGreatDoorXGP0
set_option linter.unusedVariables false
set_option linter.unusedSimpArgs false
section
namespace Ev
open Go
def Ret {α:Type} (x:Option α) (Q:α→Prop):Prop:=∃a,x=some a∧Q a
theorem Ret.pure {α:Type} {a:α} {Q:α→Prop} (h:Q a):Ret (some a) Q:=⟨a,rfl,h⟩
theorem Ret.of {α:Type} {x:Option α} {a:α} {Q:α→Prop} (e:x=some a) (h:Q a):Ret x Q:=⟨a,e,h⟩
theorem Ret.mono {α:Type} {x:Option α} {P Q:α→Prop} (h:Ret x P) (k:∀a,P a→Q a):Ret x Q:=by
 obtain ⟨a,e,q⟩:=h;exact ⟨a,e,k a q⟩
theorem Ret.bind {α β:Type} {x:Option α} {f:α→Option β} {P:α→Prop} {Q:β→Prop} (h:Ret x P) (k:∀a,P a→Ret (f a) Q):Ret (x.bind f) Q:=by
 obtain ⟨a,rfl,q⟩:=h;exact k a q
theorem Ret.need {α:Type} {b:Bool} {x:Option α} {Q:α→Prop} (h:b=true) (k:Ret x Q):Ret (Ev.need b x) Q:=by subst h;exact k
theorem Ret.cond {α:Type} {b:Bool} {x y:Option α} {Q:α→Prop} (h1:b=true→Ret x Q) (h0:b=false→Ret y Q):Ret (bif b then x else y) Q:=by
 cases b
 ·exact h0 rfl
 ·exact h1 rfl
theorem Ret.ite {α:Type} {p:Prop} [Decidable p] {x y:Option α} {Q:α→Prop} (h1:p→Ret x Q) (h0:¬p→Ret y Q):Ret (if p then x else y) Q:=by
 by_cases h:p
 ·rw [if_pos h];exact h1 h
 ·rw [if_neg h];exact h0 h
theorem Ret.map {α β:Type} {x:Option α} {f:α→β} {Q:β→Prop} (h:Ret x (fun a=>Q (f a))):Ret (x.map f) Q:=by
 obtain ⟨a,rfl,q⟩:=h;exact ⟨f a,rfl,q⟩
theorem Ret.loop {T σ:Type} {step:(T→Option σ)→T→Option σ} (Inv:T→Prop) (μ:T→Nat) (Q:T→σ→Prop)
  (h:∀again t,Inv t→(∀t',Inv t'→μ t'<μ t→Ret (again t') (Q t'))→Ret (step again t) (Q t)):∀n t,Inv t→μ t<n→Ret (ZaC step n t) (Q t)
 | 0,_,_,hn=>absurd hn (Nat.not_lt_zero _)
 | n+1,t,hi,hn=>h _ t hi fun t' hi' hm=>Ret.loop Inv μ Q h n t' hi' (by omega)
theorem Zan {α:Type} {p q:Prop} [Decidable p] [Decidable q] {x:Option α} (hp:p) (hq:q):need (decide p&&decide q) x=x:=Zab _ (by simp [hp,hq])
theorem Zam {α:Type} {p:Prop} [Decidable p] {x:Option α} (hp:p):need (decide p) x=x:=Zab _ (by simp [hp])
theorem Zak {α:Type} {p:Prop} [Decidable p] {x:Option α} {n:Nat} (hp:p) (hn:n≤1099511627776):need (decide p&&fits n) x=x:=Zab _ (by simp [hp,Zgb hn])
theorem Zad {α:Type} {n:Nat} {x:Option α} (h:n≤1099511627776):need (fits n) x=x:=Zab _ (Zgb h)
theorem Zat {α:Type} {a b:Int} {x:Option α} (h:a≠b):need (a != b) x=x:=Zab _ (by simp [h])
theorem ZaT {α:Type} {x:Option α}:need true x=x:=rfl
theorem Zbr {α:Type} (p:Prop) [Decidable p] (x y:α):(bif decide p then x else y)=if p then x else y:=by
 by_cases h:p<;>simp [h]
theorem ZdZ {α β:Type} [BEq β] [LawfulBEq β] [DecidableEq β] (a b:β) (x y:α):(bif a==b then x else y)=if a=b then x else y:=by
 by_cases h:a=b
 ·simp [h]
 ·rw [if_neg h,beq_false_of_ne h];rfl
theorem Zd1 {α β:Type} [BEq β] [LawfulBEq β] [DecidableEq β] (a b:β) (x y:α):(bif a != b then x else y)=if a=b then y else x:=by
 by_cases h:a=b
 ·simp [h]
 ·rw [if_neg h,bne,beq_false_of_ne h];rfl
theorem Zbz {α:Type} (b:Bool) (x y:α):(bif !b then x else y)=bif b then y else x:=by cases b<;>rfl
theorem Zav {α:Type} (p:Prop) [Decidable p] (x y:α):(bif !decide p then x else y)=if p then y else x:=by
 by_cases h:p<;>simp [h]
theorem ZaB {a b:Int} (h:0≤a):a.tmod b=a%b:=Int.tmod_eq_emod_of_nonneg h
theorem Zax {a b:Int} (h:0≤a):a.tdiv b=a/b:=Int.tdiv_eq_ediv_of_nonneg h
theorem Zae {α β:Type} (a:α) (f:α→Option β):(some a).bind f=f a:=rfl
theorem Zal {α:Type} {l:List α} {i:Nat} {d:α} (h:i<l.length):l.getD i d=l[i]:=by simp [List.getD,h]
end Ev
end
section
namespace Ev
open Go
theorem Zhb {n:Int} (h1:-9223372036854775808≤n) (h2:n≤9223372036854775807):IntKind.i64.wrap n=n:=Zaf h1 h2
theorem Zyn (x y:Nat) (hx:x<4611686018427387904) (hy:y<4611686018427387904):ZlS .i64 (x:Int) (y:Int)=((x^^^y:Nat):Int):=by
 have hz:x^^^y<2^62:=Nat.xor_lt_two_pow (by omega) (by omega)
 unfold ZlS
 have e:(BitVec.ofInt IntKind.i64.bits (x:Int)^^^BitVec.ofInt IntKind.i64.bits (y:Int)).toNat=x^^^y:=by
  simp only [BitVec.ofInt_natCast,BitVec.toNat_xor,BitVec.toNat_ofNat,show IntKind.i64.bits=64 from rfl]
  rw [Nat.mod_eq_of_lt (by omega),Nat.mod_eq_of_lt (by omega)]
 rw [e,Zhb (by omega) (by omega)]
theorem Zym {x y:Int} (hx:0≤x) (hx2:x<4611686018427387904) (hy:0≤y) (hy2:y<4611686018427387904):0≤ZlS .i64 x y:=by
 obtain ⟨a,rfl⟩:=Int.eq_ofNat_of_zero_le hx
 obtain ⟨b,rfl⟩:=Int.eq_ofNat_of_zero_le hy
 rw [Zyn a b (by omega) (by omega)];omega
def Zlz (b:List Int) (p:Int):Prop:=b.length≤2000∧(∀x,x∈b→0≤x∧x≤255)∧0≤p
theorem Zlz.up {b:List Int} {p q:Int} (h:Zlz b p) (hq:p≤q):Zlz b q:=⟨h.1,h.2.1,by have:=h.2.2;omega⟩
theorem Zm7 {b:List Int} (h:∀x,x∈b→0≤x∧x≤255) (i:Nat):0≤b.getD i 0∧b.getD i 0≤255:=by
 by_cases hi:i<b.length
 ·rw [Zal hi];exact h _ (List.getElem_mem hi)
 ·have:b.getD i 0=0:=by simp [List.getD,List.getElem?_eq_none (by omega:b.length≤i)]
  rw [this];omega
theorem ZpH (n:Int) {b:List Int} {p:Int} (h:Zlz b p) (hp:p≤1000000000) (hn:n≤1000000000) :
  Ret (pick n b p) fun r=>r.2.1=b∧r.2.2=p+1∧0≤r.1∧(r.1<n∨(r.1=0∧(n<1∨b=[]))):=by
 obtain ⟨h1,h2,h3⟩:=h
 unfold pick
 ((try simp (disch:=omega) only [Zan,Zam,Zak,Zad,Zat,ZaT,Zaf,ZaB,Zax,Zae,Option.map_some,cond_true,cond_false,Int.sub_zero,Int.toNat_natCast]);(try simp only [Zbr,ZdZ,Zd1,Zav,Zbz,if_true,if_false]))
 by_cases hn1:n<1
 ·simp only [if_pos hn1,Zae,cond_true]
  exact .pure ⟨rfl,rfl,by omega,.inr ⟨rfl,.inl hn1⟩⟩
 ·by_cases hb:b=[]
  ·subst hb
   simp only [if_neg hn1,Zae,List.length_nil,show (((0:Nat):Int)==0)=true from rfl,cond_true]
   exact .pure ⟨rfl,rfl,by omega,.inr ⟨rfl,.inr trivial⟩⟩
  ·have hl:0<b.length:=List.length_pos_iff.2 hb
   have e:((b.length:Int)==0)=false:=by simp;omega
   have hpp:p+1-1=p:=by omega
   simp only [if_neg hn1,Zae,e,cond_false,hpp]
   have hbl:(b.length:Int)≠0:=by omega
   have m1:0≤p%(b.length:Int):=Int.emod_nonneg _ hbl
   have m2:p%(b.length:Int)<b.length:=Int.emod_lt_of_pos _ (by omega)
   have m3:0≤(p*7+3)%(b.length:Int):=Int.emod_nonneg _ hbl
   have m4:(p*7+3)%(b.length:Int)<b.length:=Int.emod_lt_of_pos _ (by omega)
   have m5:0≤p/(b.length:Int):=Int.ediv_nonneg h3 (by omega)
   have m6:p/(b.length:Int)≤p:=Int.ediv_le_self _ h3
   refine .ite (fun hlt=>?_) fun hlt=>?_
   ·have g:=Zm7 h2 p.toNat
    ((try simp (disch:=omega) only [Zan,Zam,Zak,Zad,Zat,ZaT,Zaf,ZaB,Zax,Zae,Option.map_some,cond_true,cond_false,Int.sub_zero,Int.toNat_natCast]);(try simp only [Zbr,ZdZ,Zd1,Zav,Zbz,if_true,if_false]))
    refine .pure ⟨rfl,rfl,Int.emod_nonneg _ (by omega),.inl (Int.emod_lt_of_pos _ (by omega))⟩
   ·((try simp (disch:=omega) only [Zan,Zam,Zak,Zad,Zat,ZaT,Zaf,ZaB,Zax,Zae,Option.map_some,cond_true,cond_false,Int.sub_zero,Int.toNat_natCast]);(try simp only [Zbr,ZdZ,Zd1,Zav,Zbz,if_true,if_false]))
    have g1:=Zm7 h2 (p%(b.length:Int)).toNat
    have g2:=Zm7 h2 ((p*7+3)%(b.length:Int)).toNat
    generalize b.getD (p%(b.length:Int)).toNat 0=x at *
    generalize b.getD ((p*7+3)%(b.length:Int)).toNat 0=y at *
    generalize p/(b.length:Int)=z at *
    ((try simp (disch:=omega) only [Zan,Zam,Zak,Zad,Zat,ZaT,Zaf,ZaB,Zax,Zae,Option.map_some,cond_true,cond_false,Int.sub_zero,Int.toNat_natCast]);(try simp only [Zbr,ZdZ,Zd1,Zav,Zbz,if_true,if_false]))
    have hx:=Zym (x:=x*131+y*1117+p*29+z*53) (y:=(x*131+y*1117+p*29+z*53)/64) (by omega) (by omega) (by omega) (by omega)
    ((try simp (disch:=omega) only [Zan,Zam,Zak,Zad,Zat,ZaT,Zaf,ZaB,Zax,Zae,Option.map_some,cond_true,cond_false,Int.sub_zero,Int.toNat_natCast]);(try simp only [Zbr,ZdZ,Zd1,Zav,Zbz,if_true,if_false]))
    refine .pure ⟨rfl,rfl,Int.emod_nonneg _ (by omega),.inl (Int.emod_lt_of_pos _ (by omega))⟩
theorem ZxT (xs:List Str) {b:List Int} {p:Int} (h:Zlz b p) (hp:p≤1000000000) (hx:0<xs.length) (hx2:xs.length≤1000000000) :
  Ret (Zj7 xs b p) fun r=>r.2.1=b∧r.2.2=p+1∧r.1∈xs:=by
 unfold Zj7
 refine .bind (ZpH _ h hp (by omega)) ?_
 rintro ⟨r,b',p'⟩ ⟨rfl,rfl,h0,h1⟩
 dsimp only at h0 h1 ⊢
 have hlt:r<xs.length:=by omega
 ((try simp (disch:=omega) only [Zan,Zam,Zak,Zad,Zat,ZaT,Zaf,ZaB,Zax,Zae,Option.map_some,cond_true,cond_false,Int.sub_zero,Int.toNat_natCast]);(try simp only [Zbr,ZdZ,Zd1,Zav,Zbz,if_true,if_false]))
 refine .pure ⟨rfl,rfl,?_⟩
 rw [Zal (by omega)]
 exact List.getElem_mem _
end Ev
end
section
namespace Ev
open Go
theorem ZkF (s:Str) (n:Int) (M:Nat) (h0:0≤n) (hM:n.toNat*s.length≤M) (hs:s.length≤M) (hM2:M≤1000000) (hn:n≤1000000000):Ret (ZdF s n) fun r=>r.length≤M:=by
 unfold ZdF ZdF.l0
 refine .bind (P:=fun (o:Str)=>o.length≤M) ?_ ?_
 ·refine Ret.loop (fun (t:Str×Int×Str)=>0≤t.2.1∧t.2.1≤1000000000∧t.2.2.length+t.2.1.toNat*t.1.length≤M∧(0<t.2.1→t.1.length≤M)) (fun t=>t.2.1.toNat) (fun _ (r:Str)=>r.length≤M) ?_ _ _ ?_ ?_
  ·rintro again ⟨s,n,out⟩ ⟨h1,h1',h2,h3⟩ ih
   dsimp only at h1 h1' h2 h3
   simp only [ZdF.l0.step]
   obtain ⟨k,rfl⟩:=Int.eq_ofNat_of_zero_le h1
   rw [Int.toNat_natCast] at h2
   by_cases hk:k=0
   ·subst hk
    ((try simp (disch:=omega) only [Zan,Zam,Zak,Zad,Zat,ZaT,Zaf,ZaB,Zax,Zae,Option.map_some,cond_true,cond_false,Int.sub_zero,Int.toNat_natCast]);(try simp only [Zbr,ZdZ,Zd1,Zav,Zbz,if_true,if_false]))
    rw [if_neg (by omega)]
    exact .pure (by omega)
   ·have hs:=h3 (by omega)
    have hd:k*s.length=(k%2)*s.length+2*((k/2)*s.length):=by
     conv=>lhs;rw [←Nat.mod_add_div k 2]
     rw [Nat.add_mul,Nat.mul_assoc]
    have hL:s.length≤k*s.length:=by
     calc s.length=1*s.length:=by omega
      _≤k*s.length:=Nat.mul_le_mul_right _ (by omega)
    have key:∀o:Str,o.length≤out.length+(k%2)*s.length→Ret (again (s++s,(k:Int)/2,o)) fun r=>r.length≤M:=fun o ho=>by
     have e:((k:Int)/2)=((k/2:Nat):Int):=by omega
     refine ih _ ⟨by dsimp only;omega,by dsimp only;omega,?_,?_⟩ ?_
     ·dsimp only
      rw [e,Int.toNat_natCast,List.length_append,Nat.mul_add]
      omega
     ·dsimp only
      intro hp
      rw [List.length_append]
      have:1≤k/2:=by omega
      have:s.length≤(k/2)*s.length:=by
       calc s.length=1*s.length:=by omega
        _≤(k/2)*s.length:=Nat.mul_le_mul_right _ (by omega)
      omega
     ·dsimp only;omega
    have m1:(k:Int).tmod 2=((k%2:Nat):Int):=by rw [ZaB (by omega)];omega
    rw [m1]
    ((try simp (disch:=omega) only [Zan,Zam,Zak,Zad,Zat,ZaT,Zaf,ZaB,Zax,Zae,Option.map_some,cond_true,cond_false,Int.sub_zero,Int.toNat_natCast]);(try simp only [Zbr,ZdZ,Zd1,Zav,Zbz,if_true,if_false]))
    rw [if_pos (by omega)]
    refine .ite (fun h=>?_) fun h=>?_
    ·have e1:k%2=1:=by omega
     rw [e1,Nat.one_mul] at hd
     ((try simp (disch:=omega) only [Zan,Zam,Zak,Zad,Zat,ZaT,Zaf,ZaB,Zax,Zae,Option.map_some,cond_true,cond_false,Int.sub_zero,Int.toNat_natCast]);(try simp only [Zbr,ZdZ,Zd1,Zav,Zbz,if_true,if_false]))
     exact key (out++s) (by rw [List.length_append,e1];omega)
    ·((try simp (disch:=omega) only [Zan,Zam,Zak,Zad,Zat,ZaT,Zaf,ZaB,Zax,Zae,Option.map_some,cond_true,cond_false,Int.sub_zero,Int.toNat_natCast]);(try simp only [Zbr,ZdZ,Zd1,Zav,Zbz,if_true,if_false]))
     exact key out (by omega)
  ·exact ⟨h0,hn,by dsimp only [List.length_nil];omega,fun _=>hs⟩
  ·dsimp only;omega
 ·intro a h;exact .pure h
def Zji {α:Type} (b:List Int) (p c:Int) (Q:α→Prop) (r:α×List Int×Int):Prop:=r.2.1=b∧p≤r.2.2∧r.2.2≤p+c∧Q r.1
theorem Zeu (n:Int) {b:List Int} {p:Int} (h:Zlz b p) (hp:p≤1000000000) (hn0:1≤n) (hn:n≤1000000000):Ret (pick n b p) (Zji b p 1 fun x=>0≤x∧x<n):=
 (ZpH n h hp hn).mono fun r ⟨h1,h2,h3,h4⟩=>⟨h1,by omega,by omega,h3,by omega⟩
theorem Zjt (xs:List Str) {b:List Int} {p:Int} (h:Zlz b p) (hp:p≤1000000000) (hx:0<xs.length) (hx2:xs.length≤1000000000):Ret (Zj7 xs b p) (Zji b p 1 fun x=>x∈xs):=
 (ZxT xs h hp hx hx2).mono fun r ⟨h1,h2,h3⟩=>⟨h1,by omega,by omega,h3⟩
theorem ZmU {b:List Int} {p:Int} (h:Zlz b p) (hp:p≤900000000):Ret (Zb0 b p) (Zji b p 50 fun s=>s.length≤300):=by
 unfold Zb0
 refine .bind (Zeu 8 h (by omega) (by omega) (by omega)) ?_
 rintro ⟨r,b1,p1⟩ ⟨rfl,g1,g2,g3⟩
 dsimp only at g1 g2 g3 ⊢
 have h1:=h.up g1
 ((try simp (disch:=omega) only [Zan,Zam,Zak,Zad,Zat,ZaT,Zaf,ZaB,Zax,Zae,Option.map_some,cond_true,cond_false,Int.sub_zero,Int.toNat_natCast]);(try simp only [Zbr,ZdZ,Zd1,Zav,Zbz,if_true,if_false]))
 refine .ite (fun _=>.pure ⟨rfl,by dsimp only;omega,by dsimp only;omega,by simp⟩) fun _=>.ite (fun _=>?_) fun _=>.ite (fun _=>?_) fun _=>.ite (fun _=>?_) fun _=>?_
 ·refine .bind (Zjt _ h1 (by omega) (by decide) (by decide)) ?_
  rintro ⟨x,b2,p2⟩ ⟨rfl,k1,k2,k3⟩
  dsimp only at k1 k2 k3 ⊢
  refine .bind (Zeu 40 (h1.up k1) (by omega) (by omega) (by omega)) ?_
  rintro ⟨y,b3,p3⟩ ⟨rfl,l1,l2,l3⟩
  dsimp only at l1 l2 l3 ⊢
  have hx:x.length≤6:=by
   simp only [List.mem_cons,List.not_mem_nil,or_false] at k3
   rcases k3 with rfl | rfl | rfl | rfl<;>decide
  rw [Zaf (by omega) (by omega)]
  refine .bind (ZkF x (1+y) 300 (by omega) ?_ (by omega) (by omega) (by omega)) ?_
  ·calc (1+y).toNat*x.length≤40*6:=Nat.mul_le_mul (by omega) hx
    _≤300:=by decide
  ·intro a ha;exact .pure ⟨rfl,by dsimp only;omega,by dsimp only;omega,ha⟩
 ·refine .bind (Zeu 40 h1 (by omega) (by omega) (by omega)) ?_
  rintro ⟨x,b2,p2⟩ ⟨rfl,k1,k2,k3⟩
  dsimp only at k1 k2 k3 ⊢
  refine .bind (P:=fun (o:List Int×Int×List Int)=>o.1=b2∧p2≤o.2.1∧o.2.1≤p2+40∧o.2.2.length≤300) ?_ ?_
  ·unfold Zb0.l0
   refine Ret.loop (fun (t:Int×List Int×Int×List Int)=>t.2.1=b2∧0≤t.1∧t.1≤40∧p2≤t.2.2.1∧t.2.2.1+t.1≤p2+40∧t.2.2.2.length+t.1≤40) (fun t=>t.1.toNat) (fun _ (o:List Int×Int×List Int)=>o.1=b2∧p2≤o.2.1∧o.2.1≤p2+40∧o.2.2.length≤300) ?_ _ _ ?_ ?_
   ·rintro again ⟨n,b3,p3,out⟩ ⟨rfl,q1,q2,q3,q4,q5⟩ ih
    dsimp only at q1 q2 q3 q4 q5
    simp only [Zb0.l0.step]
    ((try simp (disch:=omega) only [Zan,Zam,Zak,Zad,Zat,ZaT,Zaf,ZaB,Zax,Zae,Option.map_some,cond_true,cond_false,Int.sub_zero,Int.toNat_natCast]);(try simp only [Zbr,ZdZ,Zd1,Zav,Zbz,if_true,if_false]))
    refine .ite (fun hn=>?_) fun hn=>.pure ⟨rfl,by dsimp only;omega,by dsimp only;omega,by dsimp only;omega⟩
    refine .bind (Zeu 256 ((h1.up k1).up q3) (by omega) (by omega) (by omega)) ?_
    rintro ⟨y,b4,p4⟩ ⟨rfl,l1,l2,l3⟩
    dsimp only at l1 l2 l3 ⊢
    ((try simp (disch:=omega) only [Zan,Zam,Zak,Zad,Zat,ZaT,Zaf,ZaB,Zax,Zae,Option.map_some,cond_true,cond_false,Int.sub_zero,Int.toNat_natCast,List.length_cons,List.length_nil]);(try simp only [Zbr,ZdZ,Zd1,Zav,Zbz,if_true,if_false,List.length_cons,List.length_nil]))
    refine ih _ ⟨rfl,by dsimp only;omega,by dsimp only;omega,by dsimp only;omega,by dsimp only;omega,by simp only [List.length_append,List.length_cons,List.length_nil];omega⟩ (by dsimp only;omega)
   ·exact ⟨rfl,by dsimp only;omega,by dsimp only;omega,by dsimp only;omega,by dsimp only;omega,by simp only [List.length_nil];omega⟩
   ·dsimp only;omega
  ·rintro ⟨b3,p3,out⟩ ⟨rfl,m1,m2,m3⟩
   dsimp only at m1 m2 m3 ⊢
   exact .pure ⟨rfl,by dsimp only;omega,by dsimp only;omega,by simp [ZbF];omega⟩
 ·refine .bind (ZkF [113] 300 300 (by omega) (by decide) (by decide) (by omega) (by omega)) ?_
  intro a ha;exact .pure ⟨rfl,by dsimp only;omega,by dsimp only;omega,ha⟩
 ·refine .bind (Zeu 12 h1 (by omega) (by omega) (by omega)) ?_
  rintro ⟨x,b2,p2⟩ ⟨rfl,k1,k2,k3⟩
  dsimp only at k1 k2 k3 ⊢
  refine .bind (P:=fun (o:Str×List Int×Int)=>Zji b2 p2 12 (fun s=>s.length≤300) o) ?_ ?_
  ·unfold Zb0.l1
   refine Ret.loop (fun (t:Str×Int×List Int×Int)=>t.2.2.1=b2∧0≤t.2.1∧t.2.1≤12∧p2≤t.2.2.2∧t.2.2.2+t.2.1≤p2+12∧t.1.length+6*t.2.1≤72) (fun t=>t.2.1.toNat) (fun _ (o:Str×List Int×Int)=>Zji b2 p2 12 (fun s=>s.length≤300) o) ?_ _ _ ?_ ?_
   ·rintro again ⟨out,n,b3,p3⟩ ⟨rfl,q1,q2,q3,q4,q5⟩ ih
    dsimp only at q1 q2 q3 q4 q5
    simp only [Zb0.l1.step]
    ((try simp (disch:=omega) only [Zan,Zam,Zak,Zad,Zat,ZaT,Zaf,ZaB,Zax,Zae,Option.map_some,cond_true,cond_false,Int.sub_zero,Int.toNat_natCast]);(try simp only [Zbr,ZdZ,Zd1,Zav,Zbz,if_true,if_false]))
    refine .ite (fun hn=>?_) fun hn=>.pure ⟨rfl,by dsimp only;omega,by dsimp only;omega,by dsimp only;omega⟩
    refine .bind (Zjt _ ((h1.up k1).up q3) (by omega) (by decide) (by decide)) ?_
    rintro ⟨y,b4,p4⟩ ⟨rfl,l1,l2,l3⟩
    dsimp only at l1 l2 l3 ⊢
    have hy:y.length≤6:=by
     simp only [List.mem_cons,List.not_mem_nil,or_false] at l3
     rcases l3 with rfl | rfl | rfl | rfl | rfl | rfl | rfl<;>decide
    ((try simp (disch:=omega) only [Zan,Zam,Zak,Zad,Zat,ZaT,Zaf,ZaB,Zax,Zae,Option.map_some,cond_true,cond_false,Int.sub_zero,Int.toNat_natCast]);(try simp only [Zbr,ZdZ,Zd1,Zav,Zbz,if_true,if_false]))
    refine ih _ ⟨rfl,by dsimp only;omega,by dsimp only;omega,by dsimp only;omega,by dsimp only;omega,by simp only [List.length_append];omega⟩ (by dsimp only;omega)
   ·exact ⟨rfl,by dsimp only;omega,by dsimp only;omega,by dsimp only;omega,by dsimp only;omega,by simp only [List.length_nil];omega⟩
   ·dsimp only;omega
  ·rintro ⟨s,b3,p3⟩ ⟨rfl,m1,m2,m3⟩
   dsimp only at m1 m2 m3 ⊢
   exact .pure ⟨rfl,by dsimp only;omega,by dsimp only;omega,m3⟩
theorem Zrz {b:List Int} {p:Int} (h:Zlz b p) (hp:p≤800000000):Ret (ZcA b p) (Zji b p 51 fun s=>s.length≤301):=by
 unfold ZcA
 refine .bind (Zeu 16 h (by omega) (by omega) (by omega)) ?_
 rintro ⟨r,b1,p1⟩ ⟨rfl,g1,g2,g3⟩
 dsimp only at g1 g2 g3 ⊢
 ((try simp (disch:=omega) only [Zan,Zam,Zak,Zad,Zat,ZaT,Zaf,ZaB,Zax,Zae,Option.map_some,cond_true,cond_false,Int.sub_zero,Int.toNat_natCast]);(try simp only [Zbr,ZdZ,Zd1,Zav,Zbz,if_true,if_false]))
 refine .ite (fun _=>?_) fun _=>?_
 ·refine .bind (ZkF [113] 301 301 (by omega) (by decide) (by decide) (by omega) (by omega)) ?_
  intro a ha;exact .pure ⟨rfl,by dsimp only;omega,by dsimp only;omega,ha⟩
 ·refine .bind (ZmU (h.up g1) (by omega)) ?_
  rintro ⟨x,b2,p2⟩ ⟨rfl,k1,k2,k3⟩
  dsimp only at k1 k2 k3 ⊢
  exact .pure ⟨rfl,by dsimp only;omega,by dsimp only;omega,by dsimp only;omega⟩
theorem ZmV {b:List Int} {p:Int} (h:Zlz b p) (hp:p≤900000000):Ret (ZbV b p) (Zji b p 1 fun s=>s.length≤7∧s≠[]):=by
 unfold ZbV
 refine .bind (Zjt _ h (by omega) (by decide) (by decide)) ?_
 rintro ⟨x,b2,p2⟩ ⟨rfl,k1,k2,k3⟩
 dsimp only at k1 k2 k3 ⊢
 refine .pure ⟨rfl,k1,k2,?_⟩
 dsimp only
 simp only [List.mem_cons,List.not_mem_nil,or_false] at k3
 rcases k3 with rfl | rfl | rfl | rfl | rfl | rfl | rfl<;>decide
theorem ZrA {b:List Int} {p:Int} (h:Zlz b p) (hp:p≤800000000):Ret (Zbw b p) (Zji b p 2 fun s=>s.length≤11):=by
 unfold Zbw
 refine .bind (Zeu 6 h (by omega) (by omega) (by omega)) ?_
 rintro ⟨r,b1,p1⟩ ⟨rfl,g1,g2,g3⟩
 dsimp only at g1 g2 g3 ⊢
 ((try simp (disch:=omega) only [Zan,Zam,Zak,Zad,Zat,ZaT,Zaf,ZaB,Zax,Zae,Option.map_some,cond_true,cond_false,Int.sub_zero,Int.toNat_natCast]);(try simp only [Zbr,ZdZ,Zd1,Zav,Zbz,if_true,if_false]))
 refine .ite (fun _=>?_) fun _=>?_
 ·refine .bind (Zjt _ (h.up g1) (by omega) (by decide) (by decide)) ?_
  rintro ⟨x,b2,p2⟩ ⟨rfl,k1,k2,k3⟩
  dsimp only at k1 k2 k3 ⊢
  refine .pure ⟨rfl,by dsimp only;omega,by dsimp only;omega,?_⟩
  dsimp only
  simp only [List.mem_cons,List.not_mem_nil,or_false] at k3
  rcases k3 with rfl | rfl | rfl | rfl | rfl | rfl | rfl | rfl | rfl<;>decide
 ·refine .bind (ZmV (h.up g1) (by omega)) ?_
  rintro ⟨x,b2,p2⟩ ⟨rfl,k1,k2,k3⟩
  dsimp only at k1 k2 k3 ⊢
  exact .pure ⟨rfl,by dsimp only;omega,by dsimp only;omega,by dsimp only;omega⟩
end Ev
end
section
namespace Ev
open Go
def ZpK:List Str:=[[97],[98,46,116,120,116],[100,105,114,47,97],[100,105,114,47,98],[120,45,121,95,122],[97,47,98,47,99,47,100],[114,101,97,100,109,101],[],[47],[97,47],[46,46],[97,47,46,46,47,98],[65],[97,32,98],[101,108,101,118,101,110,108,101,116,116,101],[97,47,98,47,99,47,100,47,101],[102,48],[102,49],[102,50],[102,51],[102,52],[102,53]]
theorem ZpS {b:List Int} {p:Int} (h:Zlz b p) (hp:p≤800000000):Ret (Zbw b p) (Zji b p 2 fun s=>s∈ZpK):=by
 unfold Zbw
 refine .bind (Zeu 6 h (by omega) (by omega) (by omega)) ?_
 rintro ⟨r,b1,p1⟩ ⟨rfl,g1,g2,g3⟩
 dsimp only at g1 g2 g3 ⊢
 refine .cond (fun _=>?_) fun _=>?_
 ·refine .bind (Zjt _ (h.up g1) (by omega) (by decide) (by decide)) ?_
  rintro ⟨x,b2,p2⟩ ⟨rfl,k1,k2,k3⟩
  dsimp only at k1 k2 k3 ⊢
  refine .pure ⟨rfl,by dsimp only;omega,by dsimp only;omega,?_⟩
  dsimp only
  simp only [List.mem_cons,List.not_mem_nil,or_false] at k3
  rcases k3 with rfl | rfl | rfl | rfl | rfl | rfl | rfl | rfl | rfl<;>decide
 ·have h1:=h.up g1
  refine .bind (P:=Zji b1 p1 1 fun s=>s∈ZpK) ?_ ?_
  ·unfold ZbV
   refine .bind (Zjt _ h1 (by omega) (by decide) (by decide)) ?_
   rintro ⟨x,b2,p2⟩ ⟨rfl,k1,k2,k3⟩
   dsimp only at k1 k2 k3 ⊢
   refine .pure ⟨rfl,k1,k2,?_⟩
   dsimp only
   simp only [List.mem_cons,List.not_mem_nil,or_false] at k3
   rcases k3 with rfl | rfl | rfl | rfl | rfl | rfl | rfl<;>decide
  ·rintro ⟨x,b2,p2⟩ ⟨rfl,k1,k2,k3⟩
   dsimp only at k1 k2 k3 ⊢
   exact .pure ⟨rfl,by dsimp only;omega,by dsimp only;omega,k3⟩
theorem Zwj:∀s∈ZpK,s.length≤11:=by decide
end Ev
end
section
namespace Ev
open Go
theorem ZfP (n k:Nat) (hk:k≤64):ZnI .i64 (n:Int) (k:Int)=((n/2^k:Nat):Int):=by
 unfold ZnI
 rw [Int.toNat_natCast,show min k IntKind.i64.bits=k from Nat.min_eq_left hk,show ((2:Int)^k)=((2^k:Nat):Int) by simp,Int.fdiv_eq_ediv_of_nonneg _ (Int.natCast_nonneg _)]
 exact (Int.natCast_ediv n (2^k)).symm
theorem Zfd (n k:Nat) (hk:k≤64) (h:n*2^k<9223372036854775808):Zsu .i64 (n:Int) (k:Int)=((n*2^k:Nat):Int):=by
 unfold Zsu
 rw [Int.toNat_natCast,show min k IntKind.i64.bits=k from Nat.min_eq_left hk,show ((2:Int)^k)=((2^k:Nat):Int) by simp,←Int.natCast_mul]
 exact Zhb (by omega) (by omega)
theorem Zua (x y:Nat) (hx:x<9223372036854775808) (hy:y<9223372036854775808):Zlp .i64 (x:Int) (y:Int)=((x &&& y:Nat):Int):=by
 have hz:x &&& y<2^63:=Nat.and_lt_two_pow _ (by omega)
 unfold Zlp
 have e:(BitVec.ofInt IntKind.i64.bits (x:Int) &&& BitVec.ofInt IntKind.i64.bits (y:Int)).toNat=x &&& y:=by
  simp only [BitVec.ofInt_natCast,BitVec.toNat_and,BitVec.toNat_ofNat,show IntKind.i64.bits=64 from rfl]
  rw [Nat.mod_eq_of_lt (by omega),Nat.mod_eq_of_lt (by omega)]
 rw [e,Zhb (by omega) (by omega)]
theorem ZkH (x y:Nat) (hx:x<9223372036854775808) (hy:y<9223372036854775808):ior .i64 (x:Int) (y:Int)=((x ||| y:Nat):Int):=by
 have hz:x ||| y<2^63:=Nat.or_lt_two_pow (by omega) (by omega)
 unfold ior
 have e:(BitVec.ofInt IntKind.i64.bits (x:Int) ||| BitVec.ofInt IntKind.i64.bits (y:Int)).toNat=x ||| y:=by
  simp only [BitVec.ofInt_natCast,BitVec.toNat_or,BitVec.toNat_ofNat,show IntKind.i64.bits=64 from rfl]
  rw [Nat.mod_eq_of_lt (by omega),Nat.mod_eq_of_lt (by omega)]
 rw [e,Zhb (by omega) (by omega)]
theorem ZyW (x y:Nat) (hx:x<256) (hy:y<256):ior .u8 (x:Int) (y:Int)=((x ||| y:Nat):Int):=by
 have hz:x ||| y<2^8:=Nat.or_lt_two_pow (by omega) (by omega)
 unfold ior
 have e:(BitVec.ofInt IntKind.u8.bits (x:Int) ||| BitVec.ofInt IntKind.u8.bits (y:Int)).toNat=x ||| y:=by
  simp only [BitVec.ofInt_natCast,BitVec.toNat_or,BitVec.toNat_ofNat,show IntKind.u8.bits=8 from rfl]
  rw [Nat.mod_eq_of_lt (by omega),Nat.mod_eq_of_lt (by omega)]
 rw [e,show IntKind.u8.wrap=IntKind.wrap .u8 from rfl]
 have:=wrap_u8' (((x ||| y:Nat)):Int)
 rw [this];omega
where
 wrap_u8' (n:Int):IntKind.wrap .u8 n=n%256:=by simp [IntKind.wrap,IntKind.bits,IntKind.signed]
theorem ZlT (x:Nat) (hx:x<9223372036854775808):Zlp .i64 (x:Int) 1=((x%2:Nat):Int):=by
 have:=Zua x 1 hx (by omega)
 rw [Nat.and_one_is_mod] at this
 exact this
theorem ZmB (x c k:Nat) (h:x<2^k):x ||| c*2^k=x+c*2^k:=by
 have:=Nat.two_pow_add_eq_or_of_lt h c
 rw [Nat.or_comm,Nat.mul_comm c,←this,Nat.add_comm]
theorem Zep (n k:Nat):n/2^k%2=(n.testBit k).toNat:=by
 rw [Nat.testBit_eq_decide_div_mod_eq]
 have:n/2^k%2<2:=Nat.mod_lt _ (by omega)
 by_cases h:n/2^k%2=1
 ·simp [h]
 ·have:n/2^k%2=0:=by omega
  simp [this]
def ZbT (n:Nat):Nat→List Bool
 | 0=>[]
 | k+1=>ZbT n k++[n.testBit k]
def ZcD:List Bool→Nat
 | []=>0
 | b::l=>b.toNat+2*ZcD l
theorem Zaj (n:Nat):∀k,(ZbT n k).length=k
 | 0=>rfl
 | k+1=>by simp [ZbT,Zaj n k]
theorem ZeZ (a b:List Bool):ZcD (a++b)=ZcD a+2^a.length*ZcD b:=by
 induction a with
 | nil=>simp [ZcD]
 | cons x l ih=>
  simp only [List.cons_append,ZcD,ih,List.length_cons,Nat.pow_succ]
  rw [Nat.mul_add,Nat.add_assoc];congr 2
  rw [←Nat.mul_assoc,Nat.mul_comm 2]
theorem Zl9 (l:List Bool):ZcD l<2^l.length:=by
 induction l with
 | nil=>simp [ZcD]
 | cons x l ih=>
  simp only [ZcD,List.length_cons,Nat.pow_succ]
  have:x.toNat≤1:=by cases x<;>decide
  omega
theorem Zl8 (n:Nat):∀k,ZcD (ZbT n k)=n%2^k
 | 0=>by simp [ZbT,ZcD,Nat.mod_one]
 | k+1=>by
  rw [ZbT,ZeZ,Zl8 n k,Zaj]
  simp only [ZcD,Nat.mul_zero,Nat.add_zero]
  rw [←Zep,Nat.mod_pow_succ]
def ZfJ (l:List Bool):List Int:=(List.range ((l.length+7)/8)).map fun i=>((ZcD ((l.drop (8*i)).take 8):Nat):Int)
theorem Zdz (l:List Bool):(ZfJ l).length=(l.length+7)/8:=by simp [ZfJ]
theorem ZtF (l:List Bool) (i:Nat) (h:i<(l.length+7)/8):(ZfJ l).getD i 0=((ZcD ((l.drop (8*i)).take 8):Nat):Int):=by
 simp [ZfJ,List.getD,h]
theorem ZuO (l:List Bool) (c:Bool) (h:l.length%8=0):ZfJ (l++[c])=ZfJ l++[((c.toNat:Nat):Int)]:=by
 apply List.ext_getElem
 ·simp [Zdz];omega
 ·intro i h1 h2
  rw [Zdz,List.length_append,List.length_singleton] at h1
  simp only [ZfJ,List.getElem_map,List.getElem_range]
  by_cases hi:i<(l.length+7)/8
  ·rw [List.getElem_append_left (by simpa using hi)]
   simp only [List.getElem_map,List.getElem_range]
   rw [List.drop_append_of_le_length (by omega),List.take_append_of_le_length (by simp;omega)]
  ·rw [List.getElem_append_right (by simp;omega)]
   have:8*i=l.length:=by omega
   rw [this,List.drop_left]
   simp [ZcD]
theorem ZuN (l:List Bool) (c:Bool) (h:l.length%8≠0) :
  ZfJ (l++[c])=(ZfJ l).set (l.length/8) ((ZfJ l).getD (l.length/8) 0+(c.toNat*2^(l.length%8):Nat)):=by
 apply List.ext_getElem
 ·simp [Zdz];omega
 ·intro i h1 h2
  rw [Zdz,List.length_append,List.length_singleton] at h1
  have hi:i<(l.length+7)/8:=by omega
  rw [List.getElem_set]
  simp only [ZfJ,List.getElem_map,List.getElem_range]
  split
  ·rename_i e
   have:=ZtF l (l.length/8) (by omega)
   unfold ZfJ at this
   rw [this,←e]
   have hl:(l.drop (8*(l.length/8))).length=l.length%8:=by rw [List.length_drop];omega
   rw [List.drop_append_of_le_length (by omega),List.take_of_length_le (by simp;omega),List.take_of_length_le (by omega),ZeZ,hl]
   simp only [ZcD,Nat.mul_zero,Nat.add_zero]
   rw [Nat.mul_comm (2^_)]
   omega
  ·rename_i e
   rw [List.drop_append_of_le_length (by omega),List.take_append_of_le_length (by simp;omega)]
theorem ZxV (l:List Bool) (h:l.length%8≠0):∃x:Nat,(ZfJ l).getD (l.length/8) 0=(x:Int)∧x<2^(l.length%8):=by
 refine ⟨_,ZtF l _ (by omega),?_⟩
 have:=Zl9 ((l.drop (8*(l.length/8))).take 8)
 have hl:((l.drop (8*(l.length/8))).take 8).length=l.length%8:=by simp;omega
 rwa [hl] at this
theorem ZvJ (n k:Nat) (hn:n<9223372036854775808) (hk:k≤62):∀(m i:Nat) (l:List Bool),i+m=k→l.length+m≤100000000→
  Zff.l0 (m+1) ((n:Int),(k:Int),(i:Int),(l.length:Int),ZfJ l)=some ((((l++((ZbT n k).drop i)).length:Nat):Int),ZfJ (l++((ZbT n k).drop i)))
 | 0,i,l,hi,hl=>by
  rw [Zff.l0.succ]
  simp only [Zff.l0.step]
  rw [ZaR (by omega),List.drop_eq_nil_of_le (by rw [Zaj];omega)]
  simp
 | m+1,i,l,hi,hl=>by
  have ik:i<k:=by omega
  have hd:(ZbT n k).drop i=n.testBit i::(ZbT n k).drop (i+1):=by
   have e:(ZbT n k)[i]'(by rw [Zaj];exact ik)=n.testBit i:=by
    clear hi hl hk
    induction k with
    | zero=>omega
    | succ k ih=>
     simp only [ZbT]
     by_cases h:i<k
     ·rw [List.getElem_append_left (by rw [Zaj];exact h)];exact ih h
     ·have:i=k:=by omega
      subst this
      rw [List.getElem_append_right (by rw [Zaj];omega)]
      simp
   rw [List.drop_eq_getElem_cons (by rw [Zaj];exact ik),e]
  have ih:=ZvJ n k hn hk m (i+1) (l++[n.testBit i]) (by omega) (by simp;omega)
  rw [Zff.l0.succ]
  simp only [Zff.l0.step]
  rw [ZaQ ik,cond_true]
  have hmod:((l.length:Int)).tmod 8=((l.length%8:Nat):Int):=by rw [ZaB (by omega)];omega
  have hdiv:((l.length:Int)).tdiv 8=((l.length/8:Nat):Int):=by rw [Zax (by omega)];omega
  have hbit:Zlp .i64 (ZnI .i64 (n:Int) (i:Int)) 1=(((n.testBit i).toNat:Nat):Int):=by
   rw [ZfP n i (by omega),ZlT _ (Nat.lt_of_le_of_lt (Nat.div_le_self _ _) hn),Zep]
  have hc:(n.testBit i).toNat≤1:=by cases n.testBit i<;>decide
  have hp:2^(l.length%8)≤2^7:=Nat.pow_le_pow_right (by omega) (by omega)
  have hle:(n.testBit i).toNat*2^(l.length%8)≤128:=by
   calc _≤1*2^7:=Nat.mul_le_mul hc hp
    _=128:=by decide
  have hshl:Zsu .i64 (((n.testBit i).toNat:Nat):Int) ((l.length%8:Nat):Int)=(((n.testBit i).toNat*2^(l.length%8):Nat):Int):=Zfd _ _ (by omega) (by omega)
  have hwr:IntKind.wrap .u8 (((n.testBit i).toNat*2^(l.length%8):Nat):Int)=(((n.testBit i).toNat*2^(l.length%8):Nat):Int):=by
   rw [show IntKind.wrap .u8 (((n.testBit i).toNat*2^(l.length%8):Nat):Int)=(((n.testBit i).toNat*2^(l.length%8):Nat):Int)%256 by simp [IntKind.wrap,IntKind.bits,IntKind.signed]]
   omega
  simp only [hmod]
  by_cases h0:l.length%8=0
  ·have e0:(((l.length%8:Nat):Int)==0)=true:=by simp [h0]
   simp only [e0,cond_true]
   rw [Zab _ (Zgb (by simp [Zdz];omega))]
   simp only [Zae,hmod,hdiv,hbit,hshl,hwr]
   have hlt:l.length/8<(ZfJ l++[0]).length:=by rw [List.length_append,Zdz];simp;omega
   have hat:l.length/8=(ZfJ l).length:=by rw [Zdz];omega
   ((try simp (disch:=omega) only [Zan,Zam,Zak,Zad,Zat,ZaT,Zaf,ZaB,Zax,Zae,Option.map_some,cond_true,cond_false,Int.sub_zero,Int.toNat_natCast]);(try simp only [Zbr,ZdZ,Zd1,Zav,Zbz,if_true,if_false]))
   rw [hat,List.getD_eq_getElem?_getD,List.getElem?_concat_length,Option.getD_some,←hat]
   have hz:ior .u8 0 (((n.testBit i).toNat*2^(l.length%8):Nat):Int)=(((n.testBit i).toNat:Nat):Int):=by
    have:=ZyW 0 ((n.testBit i).toNat*2^(l.length%8)) (by omega) (by omega)
    rw [show ((0:Nat):Int)=0 from rfl] at this
    rw [this,Nat.zero_or,h0];simp
   rw [hz,hat,List.set_append_right _ _ (Nat.le_refl _),Nat.sub_self,List.set_cons_zero,←ZuO l _ h0]
   rw [show ((i:Int)+1)=((i+1:Nat):Int) by omega,show ((l.length:Int)+1)=(((l++[n.testBit i]).length:Nat):Int) by simp]
   rw [ih,hd,List.append_assoc];rfl
  ·have e0:(((l.length%8:Nat):Int)==0)=false:=by simp;omega
   simp only [e0,cond_false,Zae,hmod,hdiv,hbit,hshl,hwr]
   have hlt:l.length/8<(ZfJ l).length:=by rw [Zdz];omega
   obtain ⟨x,hx,hxl⟩:=ZxV l h0
   have hx8:x<128:=Nat.lt_of_lt_of_le hxl hp
   ((try simp (disch:=omega) only [Zan,Zam,Zak,Zad,Zat,ZaT,Zaf,ZaB,Zax,Zae,Option.map_some,cond_true,cond_false,Int.sub_zero,Int.toNat_natCast]);(try simp only [Zbr,ZdZ,Zd1,Zav,Zbz,if_true,if_false]))
   rw [hx]
   rw [ZyW x _ (by omega) (by omega),ZmB x _ _ hxl]
   have:=ZuN l (n.testBit i) h0
   rw [hx] at this
   rw [show (((x+(n.testBit i).toNat*2^(l.length%8):Nat)):Int)=(x:Int)+(((n.testBit i).toNat*2^(l.length%8):Nat):Int) by omega,←this]
   rw [show ((i:Int)+1)=((i+1:Nat):Int) by omega,show ((l.length:Int)+1)=(((l++[n.testBit i]).length:Nat):Int) by simp]
   rw [ih,hd,List.append_assoc];rfl
theorem ZeY (n k:Nat) (hn:n<9223372036854775808) (hk:k≤62) (l:List Bool) (hl:l.length≤90000000) :
  Zff (n:Int) (k:Int) (l.length:Int) (ZfJ l)=some ((((l++ZbT n k).length:Nat):Int),ZfJ (l++ZbT n k)):=by
 unfold Zff
 have:=ZvJ n k hn hk k 0 l (by omega) (by omega)
 rw [ZaG,show (0:Int)=((0:Nat):Int) from rfl,this]
 simp
end Ev
end
section
namespace Ev
open Go
theorem Zjx (n:Nat):∀(k i:Nat) (h:i<k),(ZbT n k)[i]'(by rw [Zaj];exact h)=n.testBit i
 | 0,i,h=>by omega
 | k+1,i,h=>by
  simp only [ZbT]
  by_cases hi:i<k
  ·rw [List.getElem_append_left (by rw [Zaj];exact hi)];exact Zjx n k i hi
  ·have:i=k:=by omega
   subst this
   rw [List.getElem_append_right (by rw [Zaj];omega)]
   simp
theorem Zt1:∀(m:Nat) (o:Nat),m≤62→o*2^m<9223372036854775808→Zc0.l0 (m+1) ((m:Int),(o:Int))=some ((o*2^m:Nat):Int)
 | 0,o,hm,h=>by
  rw [Zc0.l0.succ];simp only [Zc0.l0.step]
  ((try simp (disch:=omega) only [Zan,Zam,Zak,Zad,Zat,ZaT,Zaf,ZaB,Zax,Zae,Option.map_some,cond_true,cond_false,Int.sub_zero,Int.toNat_natCast]);(try simp only [Zbr,ZdZ,Zd1,Zav,Zbz,if_true,if_false]))
  rw [if_neg (by omega)];simp
 | m+1,o,hm,h=>by
  have h2:o*2^(m+1)=2*o*2^m:=by rw [Nat.pow_succ,Nat.mul_comm (2^m) 2,←Nat.mul_assoc,Nat.mul_comm o 2]
  have hle:2*o≤2*o*2^m:=Nat.le_mul_of_pos_right _ (Nat.two_pow_pos m)
  rw [Zc0.l0.succ];simp only [Zc0.l0.step]
  ((try simp (disch:=omega) only [Zan,Zam,Zak,Zad,Zat,ZaT,Zaf,ZaB,Zax,Zae,Option.map_some,cond_true,cond_false,Int.sub_zero,Int.toNat_natCast]);(try simp only [Zbr,ZdZ,Zd1,Zav,Zbz,if_true,if_false]))
  rw [if_pos (by omega),show (((m+1:Nat):Int)-1)=(m:Int) by omega,show (2*(o:Int))=((2*o:Nat):Int) by omega,Zt1 m (2*o) (by omega) (by omega),h2]
theorem Zit (n:Nat) (hn:n≤62):Zc0 (n:Int)=some ((2^n:Nat):Int):=by
 unfold Zc0
 have hp:2^n≤2^62:=Nat.pow_le_pow_right (by omega) hn
 have:=Zt1 n 1 hn (by omega)
 rw [show ((n:Int)-0).toNat+1=n+1 by omega,show (1:Int)=((1:Nat):Int) from rfl,this,Nat.one_mul]
 rfl
def oT (l:List Bool):List Int:=(List.range (l.length/8)).map fun i=>((ZcD ((l.drop (8*i)).take 8):Nat):Int)
def oL (l:List Bool):Nat:=ZcD (l.drop (8*(l.length/8)))
theorem oL_lt (l:List Bool):oL l<2^(l.length%8):=by
 have:=Zl9 (l.drop (8*(l.length/8)))
 have hl:(l.drop (8*(l.length/8))).length=l.length%8:=by rw [List.length_drop];omega
 rwa [hl] at this
theorem Zwe (l:List Bool):(oT l).length=l.length/8:=by simp [oT]
theorem Zzk (l:List Bool) (c:Bool) (h:l.length%8≠7):oL (l++[c])=oL l+c.toNat*2^(l.length%8):=by
 unfold oL
 have e:(l++[c]).length/8=l.length/8:=by simp;omega
 have hl:(l.drop (8*(l.length/8))).length=l.length%8:=by rw [List.length_drop];omega
 rw [e,List.drop_append_of_le_length (by omega),ZeZ,hl]
 simp only [ZcD,Nat.mul_zero,Nat.add_zero]
 rw [Nat.mul_comm (2^_)]
theorem Zzi (l:List Bool) (c:Bool) (h:l.length%8≠7):oT (l++[c])=oT l:=by
 unfold oT
 have e:(l++[c]).length/8=l.length/8:=by simp;omega
 rw [e]
 apply List.map_congr_left
 intro i hi
 have:=List.mem_range.1 hi
 rw [List.drop_append_of_le_length (by omega),List.take_append_of_le_length (by simp;omega)]
theorem Zzj (l:List Bool) (c:Bool) (h:l.length%8=7):oT (l++[c])=oT l++[((oL l+c.toNat*2^(l.length%8):Nat):Int)]∧oL (l++[c])=0:=by
 have e:(l++[c]).length/8=l.length/8+1:=by simp;omega
 have hl:(l.drop (8*(l.length/8))).length=l.length%8:=by rw [List.length_drop];omega
 constructor
 ·unfold oT oL
  rw [e,List.range_succ,List.map_append,List.map_singleton]
  congr 1
  ·apply List.map_congr_left
   intro i hi
   have:=List.mem_range.1 hi
   rw [List.drop_append_of_le_length (by omega),List.take_append_of_le_length (by simp;omega)]
  ·rw [List.drop_append_of_le_length (by omega),List.take_of_length_le (by simp;omega),ZeZ,hl]
   simp only [ZcD,Nat.mul_zero,Nat.add_zero]
   rw [Nat.mul_comm (2^_)]
 ·unfold oL
  rw [e,List.drop_eq_nil_of_le (by simp;omega)];rfl
theorem Zwf (n k:Nat) (hn:n<4611686018427387904) (hk:k≤1000):∀(m i:Nat) (l:List Bool),i+m=k→l.length+m≤100000000→
  Zev.l0 (m+1) (((n/2^i:Nat):Int),(k:Int),(i:Int),(oL l:Int),((l.length%8:Nat):Int),oT l) =
   some ((oL (l++(ZbT n k).drop i):Int),(((l++(ZbT n k).drop i).length%8:Nat):Int),oT (l++(ZbT n k).drop i))
 | 0,i,l,hi,hl=>by
  rw [Zev.l0.succ];simp only [Zev.l0.step]
  rw [ZaR (by omega),List.drop_eq_nil_of_le (by rw [Zaj];omega)]
  simp
 | m+1,i,l,hi,hl=>by
  have ik:i<k:=by omega
  have hd:(ZbT n k).drop i=n.testBit i::(ZbT n k).drop (i+1):=by
   rw [List.drop_eq_getElem_cons (by rw [Zaj];exact ik),Zjx n k i ik]
  have ih:=Zwf n k hn hk m (i+1) (l++[n.testBit i]) (by omega) (by simp;omega)
  have hL:=oL_lt l
  have hp:2^(l.length%8)≤2^7:=Nat.pow_le_pow_right (by omega) (by omega)
  have hc:(n.testBit i).toNat≤1:=by cases n.testBit i<;>decide
  have hle:(n.testBit i).toNat*2^(l.length%8)≤1*2^(l.length%8):=Nat.mul_le_mul_right _ hc
  have hdn:n/2^i≤n:=Nat.div_le_self _ _
  have hbit:(((n/2^i:Nat):Int)).tmod 2=(((n.testBit i).toNat:Nat):Int):=by
   rw [ZaB (Int.natCast_nonneg _),←Zep];exact (Int.natCast_emod _ 2).symm
  have hhalf:(((n/2^i:Nat):Int)).tdiv 2=((n/2^(i+1):Nat):Int):=by
   rw [Zax (Int.natCast_nonneg _),Nat.pow_succ,←Nat.div_div_eq_div_mul];exact (Int.natCast_ediv _ 2).symm
  rw [Zev.l0.succ];simp only [Zev.l0.step]
  rw [ZaQ ik,cond_true,Zit _ (by omega)]
  simp only [Zae,hbit,hhalf]
  rw [show (((n.testBit i).toNat:Nat):Int)*((2^(l.length%8):Nat):Int)=(((n.testBit i).toNat*2^(l.length%8):Nat):Int) by rw [Int.natCast_mul]]
  have hdn2:n/2^(i+1)≤n:=Nat.div_le_self _ _
  have hw:w64 ((n/2^(i+1):Nat):Int)=((n/2^(i+1):Nat):Int):=by
   generalize n/2^(i+1)=q at hdn2 ⊢
   exact Zaf (by omega) (by omega)
  simp only [hw]
  by_cases h7:l.length%8=7
  ·obtain ⟨f1,f2⟩:=Zzj l (n.testBit i) h7
   have e8:((((l.length%8:Nat):Int)+1)==8)=true:=by simp;omega
   ((try simp (disch:=omega) only [Zan,Zam,Zak,Zad,Zat,ZaT,Zaf,ZaB,Zax,Zae,Option.map_some,cond_true,cond_false,Int.sub_zero,Int.toNat_natCast,e8]);(try simp only [Zbr,ZdZ,Zd1,Zav,Zbz,if_true,if_false,e8]))
   rw [Zab _ (Zgb (by simp [Zwe];omega))]
   have hwr:IntKind.wrap .u8 ((oL l:Int)+(((n.testBit i).toNat*2^(l.length%8):Nat):Int))=(((oL l+(n.testBit i).toNat*2^(l.length%8):Nat)):Int):=by
    rw [show IntKind.wrap .u8 ((oL l:Int)+(((n.testBit i).toNat*2^(l.length%8):Nat):Int))=((oL l:Int)+(((n.testBit i).toNat*2^(l.length%8):Nat):Int))%256 by simp [IntKind.wrap,IntKind.bits,IntKind.signed]]
    omega
   rw [hwr,←f1]
   have hm:(l++[n.testBit i]).length%8=0:=by simp;omega
   rw [f2,hm] at ih
   rw [show ((i:Int)+1)=((i+1:Nat):Int) by omega]
   rw [show (0:Int)=((0:Nat):Int) from rfl,ih,hd,List.append_assoc];rfl
  ·have e8:((((l.length%8:Nat):Int)+1)==8)=false:=by simp;omega
   ((try simp (disch:=omega) only [Zan,Zam,Zak,Zad,Zat,ZaT,Zaf,ZaB,Zax,Zae,Option.map_some,cond_true,cond_false,Int.sub_zero,Int.toNat_natCast,e8]);(try simp only [Zbr,ZdZ,Zd1,Zav,Zbz,if_true,if_false,e8]))
   have hm:(l++[n.testBit i]).length%8=l.length%8+1:=by simp;omega
   rw [Zzk l _ h7,Zzi l _ h7,hm] at ih
   rw [show ((i:Int)+1)=((i+1:Nat):Int) by omega,show (((l.length%8:Nat):Int)+1)=((l.length%8+1:Nat):Int) by omega,
    show (oL l:Int)+(((n.testBit i).toNat*2^(l.length%8):Nat):Int)=(((oL l+(n.testBit i).toNat*2^(l.length%8):Nat)):Int) by omega]
   rw [ih,hd,List.append_assoc];rfl
theorem ZeF (n k:Nat) (hn:n<4611686018427387904) (hk:k≤1000) (l:List Bool) (hl:l.length+k≤90000000) :
  Zev (n:Int) (k:Int) (oL l:Int) ((l.length%8:Nat):Int) (oT l)=some ((oL (l++ZbT n k):Int),(((l++ZbT n k).length%8:Nat):Int),oT (l++ZbT n k)):=by
 unfold Zev
 have:=Zwf n k hn hk k 0 l (by omega) (by omega)
 rw [ZaG]
 simp only [Nat.pow_zero,Nat.div_one,List.drop_zero] at this
 rw [show (0:Int)=((0:Nat):Int) from rfl,this]
 rfl
theorem Zq2:∀k,ZbT 0 k=List.replicate k false
 | 0=>rfl
 | k+1=>by rw [ZbT,Zq2 k,List.replicate_succ'];simp
def ZiC (l:List Bool):List Bool:=l++List.replicate ((8-l.length%8)%8) false
theorem Zgu (l:List Bool):(ZiC l).length=8*((l.length+7)/8):=by simp [ZiC];omega
theorem Zjv (l:List Bool):ZfJ l=oT (ZiC l)∧ZfJ (ZiC l)=ZfJ l:=by
 have key:∀i,ZcD (((ZiC l).drop (8*i)).take 8)=ZcD ((l.drop (8*i)).take 8):=fun i=>by
  have z:∀k,ZcD (List.replicate k false)=0:=fun k=>by induction k with
   | zero=>rfl
   | succ k ih=>rw [List.replicate_succ];simp [ZcD,ih]
  have vt:∀(a b:List Bool) k,ZcD b=0→(∀j,ZcD (b.take j)=0)→ZcD ((a++b).take k)=ZcD (a.take k):=fun a b k h1 h2=>by
   rw [List.take_append,ZeZ,h2];simp
  unfold ZiC
  by_cases h:8*i≤l.length
  ·rw [List.drop_append_of_le_length h]
   exact vt _ _ _ (z _) (fun j=>by rw [List.take_replicate];exact z _)
  ·rw [List.drop_eq_nil_of_le (by omega:l.length≤8*i),List.drop_append,List.drop_eq_nil_of_le (by omega:l.length≤8*i),List.nil_append,List.drop_replicate,List.take_replicate,z];rfl
 constructor
 ·unfold ZfJ oT
  rw [Zgu,show 8*((l.length+7)/8)/8=(l.length+7)/8 by omega]
  exact List.map_congr_left fun i _=>by rw [key]
 ·unfold ZfJ
  rw [Zgu,show (8*((l.length+7)/8)+7)/8=(l.length+7)/8 by omega]
  exact List.map_congr_left fun i _=>by rw [key]
theorem Zq0 (l:List Bool) (hl:l.length≤80000000):ZdU (oL l:Int) ((l.length%8:Nat):Int) (oT l)=some ((oL (ZiC l):Int),0,ZfJ l):=by
 unfold ZdU
 ((try simp (disch:=omega) only [Zan,Zam,Zak,Zad,Zat,ZaT,Zaf,ZaB,Zax,Zae,Option.map_some,cond_true,cond_false,Int.sub_zero,Int.toNat_natCast]);(try simp only [Zbr,ZdZ,Zd1,Zav,Zbz,if_true,if_false]))
 by_cases h:l.length%8=0
 ·rw [if_neg (by omega)]
  have e:ZiC l=l:=by unfold ZiC;rw [h];simp
  rw [(Zjv l).1,e,h];rfl
 ·rw [if_pos (by omega),show (8-((l.length%8:Nat):Int))=((8-l.length%8:Nat):Int) by omega,show (0:Int)=((0:Nat):Int) from rfl,ZeF 0 _ (by omega) (by omega) l (by omega)]
  simp only [Zae,Zq2]
  have e:l++List.replicate (8-l.length%8) false=ZiC l:=by unfold ZiC;rw [Nat.mod_eq_of_lt (by omega:8-l.length%8<8)]
  rw [e,(Zjv l).1,Zgu]
  simp
def Zpu (n k:Nat):Nat:=ZcD (ZbT n k).reverse
theorem Zqy (n k:Nat):Zpu n (k+1)=2*Zpu n k+n/2^k%2:=by
 unfold Zpu
 rw [ZbT,List.reverse_append]
 simp only [List.reverse_cons,List.reverse_nil,List.nil_append,List.singleton_append,ZcD]
 rw [Zep];omega
theorem Zpt (n k:Nat):Zpu n k<2^k:=by
 have:=Zl9 (ZbT n k).reverse
 rwa [List.length_reverse,Zaj] at this
theorem ZnB (n k:Nat) (hn:n<9223372036854775808) (hk:k≤60):∀(m i:Nat),i+m=k→ZbE.l0 (m+1) ((n:Int),(Zpu n i:Int),(k:Int),(i:Int))=some (Zpu n k:Int)
 | 0,i,hi=>by
  rw [ZbE.l0.succ];simp only [ZbE.l0.step]
  rw [ZaR (by omega)]
  have:i=k:=by omega
  subst this;rfl
 | m+1,i,hi=>by
  have ht:=Zpt n i
  have hp:2^i≤2^60:=Nat.pow_le_pow_right (by omega) (by omega)
  have hm:n/2^i%2<2:=Nat.mod_lt _ (by omega)
  rw [ZbE.l0.succ];simp only [ZbE.l0.step]
  rw [ZaQ (by omega),cond_true,ZfP n i (by omega),ZlT _ (Nat.lt_of_le_of_lt (Nat.div_le_self _ _) hn)]
  ((try simp (disch:=omega) only [Zan,Zam,Zak,Zad,Zat,ZaT,Zaf,ZaB,Zax,Zae,Option.map_some,cond_true,cond_false,Int.sub_zero,Int.toNat_natCast]);(try simp only [Zbr,ZdZ,Zd1,Zav,Zbz,if_true,if_false]))
  rw [show 2*(Zpu n i:Int)+((n/2^i%2:Nat):Int)=(Zpu n (i+1):Int) by rw [Zqy];omega,show ((i:Int)+1)=((i+1:Nat):Int) by omega]
  exact ZnB n k hn hk m (i+1) (by omega)
theorem Zd5 (n a b:Int):ZbA n a b=some (decide (a≤n∧n≤b)):=by
 unfold ZbA
 by_cases h1:n≥a<;>by_cases h2:n≤b<;>simp [h1,h2]<;>omega
theorem ZlR (n a b:Int):ZhH n a b=some (decide (a≤n∧n≤b)):=Zd5 n a b
theorem ZuM (n k:Nat) (hk:k≤16) (hn:n<2^k):ZeE (n:Int) (k:Int)=some true:=by
 unfold ZeE
 have hp:2^k≤2^16:=Nat.pow_le_pow_right (by omega) hk
 rw [Zd5]
 simp only [Zae]
 have h1:decide ((0:Int)≤(k:Int)∧(k:Int)≤16)=true:=by simp;omega
 have:=Zfd 1 k (by omega) (by omega)
 rw [show ((1:Nat):Int)=1 from rfl] at this
 rw [h1,cond_true,this]
 ((try simp (disch:=omega) only [Zan,Zam,Zak,Zad,Zat,ZaT,Zaf,ZaB,Zax,Zae,Option.map_some,cond_true,cond_false,Int.sub_zero,Int.toNat_natCast]);(try simp only [Zbr,ZdZ,Zd1,Zav,Zbz,if_true,if_false]))
 rw [Zd5]
 have h2:decide ((0:Int)≤(n:Int)∧(n:Int)≤((1*2^k:Nat):Int)-1)=true:=by
  rw [decide_eq_true_eq];omega
 rw [h2];rfl
theorem Zth (n k:Nat) (hk:k≤16) (hn:n<2^k):ZbE (n:Int) (k:Int)=some (Zpu n k:Int):=by
 have hp:2^k≤2^16:=Nat.pow_le_pow_right (by omega) hk
 unfold ZbE
 rw [ZuM n k hk hn]
 simp only [Zae,Bool.not_true,cond_false]
 have:=ZnB n k (by omega) (by omega) k 0 (by omega)
 rw [ZaG]
 rw [show (Zpu n 0:Int)=0 from rfl,show ((0:Nat):Int)=0 from rfl] at this
 rw [this];rfl
theorem Zry (n k:Nat) (hn:n<4611686018427387904) (hk:k≤60):∀(m i:Nat),i+m=k→Zdp.l0 (m+1) (((n/2^i:Nat):Int),(k:Int),(Zpu n i:Int),(i:Int))=some (Zpu n k:Int)
 | 0,i,hi=>by
  rw [Zdp.l0.succ];simp only [Zdp.l0.step]
  rw [ZaR (by omega)]
  have:i=k:=by omega
  subst this;rfl
 | m+1,i,hi=>by
  have ht:=Zpt n i
  have hp:2^i≤2^60:=Nat.pow_le_pow_right (by omega) (by omega)
  have hm:n/2^i%2<2:=Nat.mod_lt _ (by omega)
  have hdn:n/2^i≤n:=Nat.div_le_self _ _
  have hts:Zpu n (i+1)=2*Zpu n i+n/2^i%2:=Zqy n i
  have hq:n/2^(i+1)=n/2^i/2:=by rw [Nat.pow_succ,←Nat.div_div_eq_div_mul]
  have ih:=Zry n k hn hk m (i+1) (by omega)
  rw [hq] at ih
  rw [Zdp.l0.succ];simp only [Zdp.l0.step]
  rw [ZaQ (by omega),cond_true]
  generalize n/2^i=q at *
  ((try simp (disch:=omega) only [Zan,Zam,Zak,Zad,Zat,ZaT,Zaf,ZaB,Zax,Zae,Option.map_some,cond_true,cond_false,Int.sub_zero,Int.toNat_natCast]);(try simp only [Zbr,ZdZ,Zd1,Zav,Zbz,if_true,if_false]))
  rw [show 2*(Zpu n i:Int)+(q:Int)%2=(Zpu n (i+1):Int) by omega,show ((i:Int)+1)=((i+1:Nat):Int) by omega,
   show (q:Int)/2=((q/2:Nat):Int) by omega]
  exact ih
theorem ZwJ (n k:Nat) (hn:n<4611686018427387904) (hk:k≤60):Zdp (n:Int) (k:Int)=some (Zpu n k:Int):=by
 unfold Zdp
 have:=Zry n k hn hk k 0 (by omega)
 rw [ZaG]
 simp only [Nat.pow_zero,Nat.div_one] at this
 rw [show (Zpu n 0:Int)=0 from rfl,show ((0:Nat):Int)=0 from rfl] at this
 rw [this];rfl
def msb (c k:Nat):List Bool:=(ZbT c k).reverse
theorem Zq3:∀(l:List Bool),ZbT (ZcD l) l.length=l:=by
 intro l
 apply List.ext_getElem
 ·rw [Zaj]
 ·intro i h1 h2
  rw [Zjx _ _ _ h2]
  induction l generalizing i with
  | nil=>simp at h2
  | cons b l ih=>
   cases i with
   | zero=>
    simp only [ZcD,List.getElem_cons_zero]
    rw [Nat.testBit_zero]
    cases b<;>simp<;>omega
   | succ i=>
    simp only [ZcD,List.getElem_cons_succ]
    rw [Nat.testBit_succ,show (b.toNat+2*ZcD l)/2=ZcD l by cases b<;>simp<;>omega]
    exact ih i (by rw [Zaj];simpa using h2) (by simpa using h2)
theorem Zq4 (n k:Nat):ZbT (Zpu n k) k=msb n k:=by
 have:=Zq3 (ZbT n k).reverse
 rw [List.length_reverse,Zaj] at this
 exact this
end Ev
end
section
namespace Ev
open Go
def Zdx:Str→List Bool
 | []=>[]
 | c::s=>ZbT c.toNat 8++Zdx s
theorem Zc9:∀s:Str,(Zdx s).length=8*s.length
 | []=>rfl
 | c::s=>by simp [Zdx,Zaj,Zc9 s];omega
theorem Zj2:∀s t:Str,Zdx (s++t)=Zdx s++Zdx t
 | [],t=>rfl
 | c::s,t=>by simp [Zdx,Zj2 s t]
theorem Zph:∀(s:Str) (n:Nat) (h:n<8*s.length),(Zdx s)[n]'(by rw [Zc9];exact h)=((s.getD (n/8) 0).toNat).testBit (n%8)
 | [],n,h=>by simp at h
 | c::s,n,h=>by
  simp only [Zdx]
  by_cases h8:n<8
  ·rw [List.getElem_append_left (by rw [Zaj];exact h8),Zjx _ _ _ h8,show n/8=0 by omega,show n%8=n by omega];rfl
  ·rw [List.getElem_append_right (by rw [Zaj];omega)]
   simp only [Zaj]
   have:=Zph s (n-8) (by simp at h;omega)
   rw [this,show n/8=(n-8)/8+1 by omega,show (n-8)%8=n%8 by omega];rfl
def Rs (s:Str) (at_:Int) (bad:Bool):Option (List Bool)→Prop
 | some l=>bad=false∧∃n:Nat,at_=(n:Int)∧n≤8*s.length∧(Zdx s).drop n=l
 | none=>bad=true∧∃n:Nat,at_=(n:Int)∧n≤8*s.length
theorem Rs.at {s:Str} {at_:Int} {bad:Bool} {m:Option (List Bool)} (h:Rs s at_ bad m):∃n:Nat,at_=(n:Int)∧n≤8*s.length:=by
 cases m with
 | none=>exact h.2
 | some l=>obtain ⟨_,n,a,b,_⟩:=h;exact ⟨n,a,b⟩
theorem Rs.fail {s:Str} {at_:Int} {bad:Bool} {m:Option (List Bool)} (h:Rs s at_ bad m):Rs s at_ true none:=⟨rfl,h.at⟩
theorem Rs.len {s:Str} {at_:Int} {bad:Bool} {l:List Bool} (h:Rs s at_ bad (some l)):at_=((8*s.length-l.length:Nat):Int)∧l.length≤8*s.length:=by
 obtain ⟨_,n,a,b,c⟩:=h
 have:=congrArg List.length c
 rw [List.length_drop,Zc9] at this
 omega
theorem Rs.start (s:Str):Rs s 0 false (some (Zdx s)):=⟨rfl,0,rfl,by omega,rfl⟩
def Zoe:Option (List Bool)→Option (List Bool)
 | some (_::l)=>some l
 | _=>none
def Zxy (s:Str) (m:Option (List Bool)) (r:Int×Str×Int×Bool):Prop:=
 r.2.1=s∧∃b:Bool,r.1=((b.toNat:Nat):Int)∧Rs s r.2.2.1 r.2.2.2 (Zoe m)∧∀c l,m=some (c::l)→b=c
theorem ZsL (s:Str) (n:Nat) (bad:Bool) (hs:s.length≤1000000000) (hlt:n<8*s.length) :
  Zi0 s (n:Int) bad=some (((((s.getD (n/8) 0).toNat.testBit (n%8)).toNat:Nat):Int),s,((n+1:Nat):Int),bad):=by
 unfold Zi0
 have hmod:((n:Int)).tmod 8=((n%8:Nat):Int):=by rw [ZaB (by omega)];omega
 have hdiv:((n:Int)).tdiv 8=((n/8:Nat):Int):=by rw [Zax (by omega)];omega
 simp only [hmod,hdiv]
 ((try simp (disch:=omega) only [Zan,Zam,Zak,Zad,Zat,ZaT,Zaf,ZaB,Zax,Zae,Option.map_some,cond_true,cond_false,Int.sub_zero,Int.toNat_natCast]);(try simp only [Zbr,ZdZ,Zd1,Zav,Zbz,if_true,if_false]))
 rw [if_neg (by omega)]
 have hc:(s.getD (n/8) 0).toNat<256:=(s.getD (n/8) 0).toNat_lt
 have hbit:Zlp .i64 (ZnI .i64 (w64 (((s.getD (n/8) 0).toNat:Nat):Int)) ((n%8:Nat):Int)) 1=((((s.getD (n/8) 0).toNat.testBit (n%8)).toNat:Nat):Int):=by
  rw [Zaf (by omega) (by omega),ZfP _ _ (by omega),ZlT _ (Nat.lt_of_le_of_lt (Nat.div_le_self _ _) (by omega)),Zep]
 rw [hbit,show ((n:Int)+1)=((n+1:Nat):Int) by omega]
theorem Zkt {s:Str} {at_:Int} {bad:Bool} {m:Option (List Bool)} (hs:s.length≤1000000000) (h:Rs s at_ bad m):Ret (Zi0 s at_ bad) (Zxy s m):=by
 obtain ⟨n,rfl,hn⟩:=h.at
 unfold Zi0
 by_cases hlt:n<8*s.length
 ·have hb0:=ZsL s n bad hs hlt
  unfold Zi0 at hb0
  rw [hb0]
  refine .pure ⟨rfl,_,rfl,?_,?_⟩
  ·cases m with
   | none=>exact ⟨h.1,n+1,rfl,by omega⟩
   | some l=>
    obtain ⟨hb,n',e,_,hd⟩:=h
    have:n'=n:=by omega
    subst this
    rw [List.drop_eq_getElem_cons (by rw [Zc9];exact hlt)] at hd
    subst hd
    exact ⟨hb,n'+1,rfl,by omega,rfl⟩
  ·rintro c l rfl
   obtain ⟨hb,n',e,_,hd⟩:=h
   have:n'=n:=by omega
   subst this
   rw [List.drop_eq_getElem_cons (by rw [Zc9];exact hlt),Zph s n' hlt] at hd
   exact (List.cons.inj hd).1
 ·((try simp (disch:=omega) only [Zan,Zam,Zak,Zad,Zat,ZaT,Zaf,ZaB,Zax,Zae,Option.map_some,cond_true,cond_false,Int.sub_zero,Int.toNat_natCast]);(try simp only [Zbr,ZdZ,Zd1,Zav,Zbz,if_true,if_false]))
  rw [if_pos (by omega)]
  refine .pure ⟨rfl,false,rfl,?_,?_⟩
  ·cases m with
   | none=>exact ⟨rfl,n,rfl,hn⟩
   | some l=>
    have:=h.len
    have:l=[]:=List.length_eq_zero_iff.1 (by omega)
    subst this
    exact ⟨rfl,n,rfl,hn⟩
  ·rintro c l rfl
   have:=h.len
   simp at this;omega
theorem ZvX (s:Str) (n:Nat) (bad:Bool) (hs:s.length≤1000000000) (hn:n≤8*s.length):Zkn s (n:Int) bad=Zi0 s (n:Int) bad:=by
 unfold Zkn Zi0
 have hmod:((n:Int)).tmod 8=((n%8:Nat):Int):=by rw [ZaB (by omega)];omega
 have hdiv:((n:Int)).tdiv 8=((n/8:Nat):Int):=by rw [Zax (by omega)];omega
 simp only [hmod,hdiv]
 by_cases hlt:n<8*s.length
 ·((try simp (disch:=omega) only [Zan,Zam,Zak,Zad,Zat,ZaT,Zaf,ZaB,Zax,Zae,Option.map_some,cond_true,cond_false,Int.sub_zero,Int.toNat_natCast]);(try simp only [Zbr,ZdZ,Zd1,Zav,Zbz,if_true,if_false]))
  rw [if_neg (by omega),if_neg (by omega),Zit _ (by omega)]
  have hc:(s.getD (n/8) 0).toNat<256:=(s.getD (n/8) 0).toNat_lt
  have hp:=Nat.two_pow_pos (n%8)
  rw [Zaf (by omega) (by omega),ZfP _ _ (by omega),ZlT _ (Nat.lt_of_le_of_lt (Nat.div_le_self _ _) (by omega))]
  simp only [Zae]
  rw [Zab _ (by
   simp only [bne_iff_ne,ne_eq];intro h0;have h0:2^(n%8)=0:=by exact_mod_cast h0
   rw [h0] at hp;exact absurd hp (by omega))]
  have hle:(s.getD (n/8) 0).toNat/2^(n%8)≤(s.getD (n/8) 0).toNat:=Nat.div_le_self _ _
  rw [Zax (Int.natCast_nonneg _),←Int.natCast_ediv]
  generalize (s.getD (n/8) 0).toNat/2^(n%8)=q at *
  ((try simp (disch:=omega) only [Zan,Zam,Zak,Zad,Zat,ZaT,Zaf,ZaB,Zax,Zae,Option.map_some,cond_true,cond_false,Int.sub_zero,Int.toNat_natCast]);(try simp only [Zbr,ZdZ,Zd1,Zav,Zbz,if_true,if_false]))
  rfl
 ·((try simp (disch:=omega) only [Zan,Zam,Zak,Zad,Zat,ZaT,Zaf,ZaB,Zax,Zae,Option.map_some,cond_true,cond_false,Int.sub_zero,Int.toNat_natCast]);(try simp only [Zbr,ZdZ,Zd1,Zav,Zbz,if_true,if_false]))
  rw [if_pos (by omega),if_pos (by omega)]
theorem ZsI {s:Str} {at_:Int} {bad:Bool} {m:Option (List Bool)} (hs:s.length≤1000000000) (h:Rs s at_ bad m):Ret (Zkn s at_ bad) (Zxy s m):=by
 obtain ⟨n,rfl,hn⟩:=h.at
 rw [ZvX s n bad hs hn];exact Zkt hs h
def ZbQ (k:Nat):Option (List Bool)→Option (List Bool)
 | some l=>if k≤l.length then some (l.drop k) else none
 | none=>none
def Zqk (s:Str) (k:Nat) (m:Option (List Bool)) (r:Int×Str×Int×Bool):Prop:=
 r.2.1=s∧(∃v:Nat,r.1=(v:Int)∧v<2^k∧∀l,m=some l→k≤l.length→v=ZcD (l.take k))∧Rs s r.2.2.1 r.2.2.2 (ZbQ k m)
theorem Zq9 (m:Option (List Bool)):ZbQ 0 m=m:=by cases m<;>simp [ZbQ]
theorem Zra (k:Nat) (m:Option (List Bool)):ZbQ (k+1) m=Zoe (ZbQ k m):=by
 cases m with
 | none=>rfl
 | some l=>
  simp only [ZbQ]
  by_cases h:k+1≤l.length
  ·rw [if_pos h,if_pos (by omega),List.drop_eq_getElem_cons (by omega:k<l.length)];rfl
  ·rw [if_neg h]
   by_cases h2:k≤l.length
   ·rw [if_pos h2,List.drop_eq_nil_of_le (by omega)];rfl
   ·rw [if_neg h2];rfl
theorem ZiD (l:List Bool) (k:Nat) (h:k<l.length):ZcD (l.take (k+1))=ZcD (l.take k)+(l[k]).toNat*2^k:=by
 rw [List.take_succ_eq_append_getElem h,ZeZ,List.length_take,Nat.min_eq_left (by omega)]
 simp only [ZcD,Nat.mul_zero,Nat.add_zero]
 rw [Nat.mul_comm (2^_)]
theorem Zv1 {s:Str} (hs:s.length≤1000000000) (k:Nat) (hk:k≤60) (m0:Option (List Bool)):∀(j i v:Nat) (at_:Int) (bad:Bool),i+j=k→v<2^i→(∀l,m0=some l→i≤l.length→v=ZcD (l.take i))→Rs s at_ bad (ZbQ i m0)→
  Ret (Zfi.l0 (j+1) ((v:Int),(k:Int),(i:Int),s,at_,bad)) (Zqk s k m0)
 | 0,i,v,at_,bad,hi,hv,hl,h=>by
  rw [Zfi.l0.succ];simp only [Zfi.l0.step]
  rw [ZaR (by omega)]
  have:i=k:=by omega
  subst this
  exact .pure ⟨rfl,⟨v,rfl,hv,hl⟩,h⟩
 | j+1,i,v,at_,bad,hi,hv,hl,h=>by
  rw [Zfi.l0.succ];simp only [Zfi.l0.step]
  rw [ZaQ (by omega),cond_true]
  refine .bind (Zkt hs h) ?_
  rintro ⟨r,s',at',bad'⟩ ⟨rfl,b,rfl,h2,h3⟩
  dsimp only at h2 h3 ⊢
  have hb:b.toNat≤1:=by cases b<;>decide
  have hp:2^i≤2^60:=Nat.pow_le_pow_right (by omega) (by omega)
  have hle:b.toNat*2^i≤1*2^i:=Nat.mul_le_mul_right _ hb
  ((try simp (disch:=omega) only [Zan,Zam,Zak,Zad,Zat,ZaT,Zaf,ZaB,Zax,Zae,Option.map_some,cond_true,cond_false,Int.sub_zero,Int.toNat_natCast]);(try simp only [Zbr,ZdZ,Zd1,Zav,Zbz,if_true,if_false]))
  rw [Zfd _ _ (by omega) (by omega),ZkH _ _ (by omega) (by omega),ZmB v _ i hv,show ((i:Int)+1)=((i+1:Nat):Int) by omega]
  refine Zv1 hs k hk m0 j (i+1) _ at' bad' (by omega) (by rw [Nat.pow_succ];omega) (fun l hm hil=>?_) (by rw [Zra];exact h2)
  subst hm
  have hlen:i<l.length:=by omega
  rw [ZiD l i hlen,←hl l rfl (by omega)]
  have:=h3 l[i] (l.drop (i+1)) (by simp only [ZbQ];rw [if_pos (by omega),List.drop_eq_getElem_cons hlen])
  rw [this]
theorem Ze3 {s:Str} {at_:Int} {bad:Bool} {m:Option (List Bool)} (hs:s.length≤1000000000) (k:Nat) (hk:k≤60) (h:Rs s at_ bad m):Ret (Zfi (k:Int) s at_ bad) (Zqk s k m):=by
 unfold Zfi
 rw [ZaG]
 refine .bind (Zv1 hs k hk m k 0 0 at_ bad (by omega) (by simp) (fun l _ _=>by simp [ZcD]) (by rw [Zq9];exact h)) ?_
 rintro ⟨r,s',at',bad'⟩ hr
 exact .pure hr
theorem ZvW {s:Str} (hs:s.length≤1000000000) (k:Nat) (hk:k≤60) (m0:Option (List Bool)):∀(j i v:Nat) (at_:Int) (bad:Bool),i+j=k→v<2^i→(∀l,m0=some l→i≤l.length→v=ZcD (l.take i))→Rs s at_ bad (ZbQ i m0)→
  Ret (Zfs.l0 (j+1) ((k:Int),(v:Int),(i:Int),s,at_,bad)) (Zqk s k m0)
 | 0,i,v,at_,bad,hi,hv,hl,h=>by
  rw [Zfs.l0.succ];simp only [Zfs.l0.step]
  rw [ZaR (by omega)]
  have:i=k:=by omega
  subst this
  exact .pure ⟨rfl,⟨v,rfl,hv,hl⟩,h⟩
 | j+1,i,v,at_,bad,hi,hv,hl,h=>by
  rw [Zfs.l0.succ];simp only [Zfs.l0.step]
  rw [ZaQ (by omega),cond_true]
  refine .bind (ZsI hs h) ?_
  rintro ⟨r,s',at',bad'⟩ ⟨rfl,b,rfl,h2,h3⟩
  dsimp only at h2 h3 ⊢
  have hb:b.toNat≤1:=by cases b<;>decide
  have hp:2^i≤2^60:=Nat.pow_le_pow_right (by omega) (by omega)
  have hle:b.toNat*2^i≤1*2^i:=Nat.mul_le_mul_right _ hb
  rw [Zit i (by omega)]
  simp only [Zae]
  rw [←Int.natCast_mul]
  ((try simp (disch:=omega) only [Zan,Zam,Zak,Zad,Zat,ZaT,Zaf,ZaB,Zax,Zae,Option.map_some,cond_true,cond_false,Int.sub_zero,Int.toNat_natCast]);(try simp only [Zbr,ZdZ,Zd1,Zav,Zbz,if_true,if_false]))
  rw [←Int.natCast_add,show ((i:Int)+1)=((i+1:Nat):Int) by omega]
  refine ZvW hs k hk m0 j (i+1) _ at' bad' (by omega) (by rw [Nat.pow_succ];omega) (fun l hm hil=>?_) (by rw [Zra];exact h2)
  subst hm
  have hlen:i<l.length:=by omega
  rw [ZiD l i hlen,←hl l rfl (by omega)]
  have:=h3 l[i] (l.drop (i+1)) (by simp only [ZbQ];rw [if_pos (by omega),List.drop_eq_getElem_cons hlen])
  rw [this]
theorem ZeD {s:Str} {at_:Int} {bad:Bool} {m:Option (List Bool)} (hs:s.length≤1000000000) (k:Nat) (hk:k≤60) (h:Rs s at_ bad m):Ret (Zfs (k:Int) s at_ bad) (Zqk s k m):=by
 unfold Zfs
 rw [ZaG]
 refine .bind (ZvW hs k hk m k 0 0 at_ bad (by omega) (by simp) (fun l _ _=>by simp [ZcD]) (by rw [Zq9];exact h)) ?_
 rintro ⟨r,s',at',bad'⟩ hr
 exact .pure hr
def Zed:Option (List Bool)→Option (List Bool)
 | some l=>if ZcD (l.take (l.length%8))=0 then some (l.drop (l.length%8)) else none
 | none=>none
theorem Zir (b:Bool) (l:List Bool) (h:(l.length+1)%8≠0):Zed (some (b::l))=if b then none else Zed (some l):=by
 have e:(l.length+1)%8=l.length%8+1:=by omega
 simp only [Zed,List.length_cons,e,List.take_succ_cons,List.drop_succ_cons,ZcD]
 cases b
 ·by_cases h0:ZcD (List.take (l.length%8) l)=0
  ·simp [h0]
  ·simp [h0];omega
 ·simp
theorem ZtE {s:Str} (hs:s.length≤1000000000):∀(j:Nat) (at_:Int) (bad:Bool) (m:Option (List Bool)),Rs s at_ bad m→(8-at_.toNat%8)%8<j→
  Ret (Zez.l0 j (s,at_,bad)) fun r=>r.1=s∧Rs s r.2.1 r.2.2 (Zed m)
 | 0,_,_,_,_,h=>absurd h (by omega)
 | j+1,at_,bad,m,h,hj=>by
  obtain ⟨n,rfl,hn⟩:=h.at
  rw [Zez.l0.succ];simp only [Zez.l0.step]
  have hmod:((n:Int)).tmod 8=((n%8:Nat):Int):=by rw [ZaB (by omega)];omega
  rw [hmod]
  ((try simp (disch:=omega) only [Zan,Zam,Zak,Zad,Zat,ZaT,Zaf,ZaB,Zax,Zae,Option.map_some,cond_true,cond_false,Int.sub_zero,Int.toNat_natCast]);(try simp only [Zbr,ZdZ,Zd1,Zav,Zbz,if_true,if_false]))
  refine .ite (fun h0=>.pure ⟨rfl,?_⟩) fun h0=>?_
  ·cases m with
   | none=>exact h
   | some l=>
    have hl:=h.len
    have:l.length%8=0:=by omega
    simp only [Zed,this,List.take_zero,List.drop_zero,ZcD,if_true];exact h
  ·have hlt:n<8*s.length:=by omega
   have hst:=Zkt hs h
   rw [ZsL s n bad hs hlt] at hst ⊢
   obtain ⟨r0,hr0,hst⟩:=hst
   cases hr0
   obtain ⟨_,b,hb,h2,h3⟩:=hst
   dsimp only at hb h2 h3
   have hbb:(s.getD (n/8) 0).toNat.testBit (n%8)=b:=by
    generalize (s.getD (n/8) 0).toNat.testBit (n%8)=c at hb
    revert hb;cases b<;>cases c<;>simp
   rw [hbb]
   simp only [Zae]
   have fin:∀bad2,Rs s ((n+1:Nat):Int) bad2 (match m with
     | some (c::l)=>if b then none else some l
     | _=>none)→Ret (Zez.l0 j (s,((n+1:Nat):Int),bad2)) fun r=>r.1=s∧Rs s r.2.1 r.2.2 (Zed m):=fun bad2 h4=>by
    refine (ZtE hs j _ bad2 _ h4 (by omega)).mono fun r ⟨e1,e2⟩=>⟨e1,?_⟩
    cases m with
    | none=>exact e2
    | some l=>
     cases l with
     | nil=>have:=h.len;simp at this;omega
     | cons c l=>
      have hl:=h.len
      rw [Zir c l (by simp at hl;omega),←h3 c l rfl]
      cases b<;>exact e2
   ((try simp (disch:=omega) only [Zan,Zam,Zak,Zad,Zat,ZaT,Zaf,ZaB,Zax,Zae,Option.map_some,cond_true,cond_false,Int.sub_zero,Int.toNat_natCast]);(try simp only [Zbr,ZdZ,Zd1,Zav,Zbz,if_true,if_false]))
   refine .ite (fun hb0=>fin bad ?_) fun hb0=>fin true ?_
   ·have:b=false:=by cases b<;>simp at hb0 ⊢
    subst this
    cases m with
    | none=>exact h2
    | some l=>cases l<;>exact h2
   ·have:b=true:=by cases b<;>simp at hb0 ⊢
    subst this
    cases m with
    | none=>exact h2.fail
    | some l=>cases l<;>exact h2.fail
theorem ZtD {s:Str} {at_:Int} {bad:Bool} {m:Option (List Bool)} (hs:s.length≤1000000000) (h:Rs s at_ bad m):Ret (Zez s at_ bad) fun r=>r.1=s∧Rs s r.2.1 r.2.2 (Zed m):=by
 unfold Zez
 refine .bind (ZtE hs 9 at_ bad m h (by omega)) ?_
 rintro ⟨s',a,b⟩ hr
 exact .pure hr
theorem ZqI {s:Str} (hs:s.length≤1000000000):∀(j v:Nat) (at_:Int) (bad:Bool) (m:Option (List Bool)),Rs s at_ bad m→(8-at_.toNat%8)%8<j→v≤100-8*((8-at_.toNat%8)%8)→
  Ret (Zc4.l0 j ((v:Int),s,at_,bad)) fun r=>r.2.1=s∧∃q:Nat,r.1=(q:Int)∧v≤q∧((v=q→Rs s r.2.2.1 r.2.2.2 (Zed m))∧(v≠q→Zed m=none∧∃m',Rs s r.2.2.1 r.2.2.2 m'))
 | 0,_,_,_,_,_,h,_=>absurd h (by omega)
 | j+1,v,at_,bad,m,h,hj,hv=>by
  obtain ⟨n,rfl,hn⟩:=h.at
  rw [Zc4.l0.succ];simp only [Zc4.l0.step]
  have hmod:((n:Int)).tmod 8=((n%8:Nat):Int):=by rw [ZaB (by omega)];omega
  rw [hmod]
  ((try simp (disch:=omega) only [Zan,Zam,Zak,Zad,Zat,ZaT,Zaf,ZaB,Zax,Zae,Option.map_some,cond_true,cond_false,Int.sub_zero,Int.toNat_natCast]);(try simp only [Zbr,ZdZ,Zd1,Zav,Zbz,if_true,if_false]))
  refine .ite (fun h0=>.pure ⟨rfl,v,rfl,Nat.le_refl _,fun _=>?_,fun h=>absurd rfl h⟩) fun h0=>?_
  ·cases m with
   | none=>exact h
   | some l=>
    have hl:=h.len
    have:l.length%8=0:=by omega
    simp only [Zed,this,List.take_zero,List.drop_zero,ZcD,if_true];exact h
  ·have hlt:n<8*s.length:=by omega
   have hst:=Zkt hs h
   rw [ZvX s n bad hs hn]
   rw [ZsL s n bad hs hlt] at hst ⊢
   obtain ⟨r0,hr0,hst⟩:=hst
   cases hr0
   obtain ⟨_,b,hb,h2,h3⟩:=hst
   dsimp only at hb h2 h3
   have hbb:(s.getD (n/8) 0).toNat.testBit (n%8)=b:=by
    generalize (s.getD (n/8) 0).toNat.testBit (n%8)=c at hb
    revert hb;cases b<;>cases c<;>simp
   rw [hbb]
   simp only [Zae]
   have hb1:b.toNat≤1:=by cases b<;>decide
   ((try simp (disch:=omega) only [Zan,Zam,Zak,Zad,Zat,ZaT,Zaf,ZaB,Zax,Zae,Option.map_some,cond_true,cond_false,Int.sub_zero,Int.toNat_natCast]);(try simp only [Zbr,ZdZ,Zd1,Zav,Zbz,if_true,if_false]))
   rw [←Int.natCast_add]
   refine (ZqI hs j (v+b.toNat) _ bad _ h2 (by omega) (by omega)).mono fun r ⟨e1,q,e2,e3,e4,e5⟩=>⟨e1,q,e2,by omega,fun hq=>?_,fun hq=>?_⟩
   ·have:b=false:=by cases b<;>simp at e3 ⊢<;>omega
    subst this
    have e4:=e4 (by simp;omega)
    cases m with
    | none=>exact e4
    | some l=>
     cases l with
     | nil=>have:=h.len;simp at this;omega
     | cons c l=>
      have hl:=h.len
      rw [Zir c l (by simp at hl;omega),←h3 c l rfl]
      exact e4
   ·by_cases hq2:v+b.toNat=q
    ·refine ⟨?_,_,e4 hq2⟩
     have:b=true:=by cases b<;>simp at hq2 ⊢;omega
     subst this
     cases m with
     | none=>rfl
     | some l=>
      cases l with
      | nil=>have:=h.len;simp at this;omega
      | cons c l=>
       have hl:=h.len
       rw [Zir c l (by simp at hl;omega),←h3 c l rfl];rfl
    ·obtain ⟨f1,f2⟩:=e5 hq2
     refine ⟨?_,f2⟩
     cases m with
     | none=>rfl
     | some l=>
      cases l with
      | nil=>have:=h.len;simp at this;omega
      | cons c l=>
       have hl:=h.len
       rw [Zir c l (by simp at hl;omega)]
       cases c
       ·exact f1
       ·rfl
theorem Zmp {s:Str} {at_:Int} {bad:Bool} {m:Option (List Bool)} (hs:s.length≤1000000000) (h:Rs s at_ bad m):Ret (Zc4 s at_ bad) fun r=>r.2.1=s∧(r.1=true→Rs s r.2.2.1 r.2.2.2 (Zed m))∧(r.1=false→Zed m=none∧∃m',Rs s r.2.2.1 r.2.2.2 m'):=by
 unfold Zc4
 refine .bind (ZqI hs 9 0 at_ bad m h (by omega) (by omega)) ?_
 rintro ⟨v,s',a,b⟩ ⟨e1,q,e2,e3,e4,e5⟩
 dsimp only at e1 e2 e3 e4 e5 ⊢
 subst e2
 refine .pure ⟨e1,fun hq=>e4 ?_,fun hq=>e5 ?_⟩
 ·dsimp only at hq;rw [beq_iff_eq] at hq;omega
 ·dsimp only at hq;rw [beq_eq_false_iff_ne] at hq;omega
end Ev
end
section
namespace Ev
open Go
theorem Zil (n:Int):IntKind.wrap .u32 n=n%4294967296:=by simp [IntKind.wrap,IntKind.bits,IntKind.signed]
theorem ZfO (x y:Nat) (hx:x<4294967296) (hy:y<4294967296):ZlS .u32 (x:Int) (y:Int)=((x^^^y:Nat):Int):=by
 have hz:x^^^y<2^32:=Nat.xor_lt_two_pow (by omega) (by omega)
 unfold ZlS
 have e:(BitVec.ofInt IntKind.u32.bits (x:Int)^^^BitVec.ofInt IntKind.u32.bits (y:Int)).toNat=x^^^y:=by
  simp only [BitVec.ofInt_natCast,BitVec.toNat_xor,BitVec.toNat_ofNat,show IntKind.u32.bits=32 from rfl]
  rw [Nat.mod_eq_of_lt (by omega),Nat.mod_eq_of_lt (by omega)]
 rw [e,Zil];omega
theorem ZrF (x:Nat) (hx:x<4294967296):Zlp .u32 (x:Int) 1=((x%2:Nat):Int):=by
 have hz:x &&& 1<2^32:=Nat.and_lt_two_pow _ (by omega)
 unfold Zlp
 have e:(BitVec.ofInt IntKind.u32.bits (x:Int) &&& BitVec.ofInt IntKind.u32.bits ((1:Nat):Int)).toNat=x &&& 1:=by
  simp only [BitVec.ofInt_natCast,BitVec.toNat_and,BitVec.toNat_ofNat,show IntKind.u32.bits=32 from rfl]
  rw [Nat.mod_eq_of_lt (by omega),Nat.mod_eq_of_lt (by omega)]
 rw [show (1:Int)=((1:Nat):Int) from rfl,e,Zil,Nat.and_one_is_mod];omega
theorem ZrE (x:Nat):ZnI .u32 (x:Int) 1=((x/2:Nat):Int):=by
 unfold ZnI
 rw [show min (1:Int).toNat IntKind.u32.bits=1 from rfl,show ((2:Int)^1)=2 by rfl,Int.fdiv_eq_ediv_of_nonneg _ (by omega)]
 omega
def Zh5 (c:Nat):Nat:=if c%2=1 then c/2^^^3988292384 else c/2
def Zix:Nat→Nat→Nat
 | 0,c=>c
 | n+1,c=>Zix n (Zh5 c)
def ZgM (c:Nat) (b:UInt8):Nat:=Zix 8 (c^^^b.toNat)
def Zqq (text:Str):Nat:=text.foldl ZgM 4294967295^^^4294967295
theorem ZkV {c:Nat} (h:c<4294967296):Zh5 c<4294967296:=by
 unfold Zh5
 split
 ·exact Nat.xor_lt_two_pow (n:=32) (by omega) (by omega)
 ·omega
theorem Zno:∀{n c:Nat},c<4294967296→Zix n c<4294967296
 | 0,c,h=>h
 | n+1,c,h=>Zno (n:=n) (ZkV h)
theorem ZkW {c:Nat} {b:UInt8} (h:c<4294967296):ZgM c b<4294967296:=
 Zno (Nat.xor_lt_two_pow (n:=32) (by omega) (by have:=b.toNat_lt;omega))
theorem Ziy:∀(text:Str) {c:Nat},c<4294967296→text.foldl ZgM c<4294967296
 | [],_,h=>h
 | b::t,_,h=>Ziy t (ZkW h)
theorem Zjd (text:Str):Zqq text<4294967296:=Nat.xor_lt_two_pow (n:=32) (Ziy text (by omega)) (by omega)
theorem Zlu (text:Str) (k:Int):∀(j i c:Nat),i+j=8→c<4294967296→ZaH.l0 (j+1) ((c:Int),text,k,(i:Int))=some (((Zix j c:Nat):Int),text,k)
 | 0,i,c,hi,hc=>by
  rw [ZaH.l0.succ];simp only [ZaH.l0.step]
  ((try simp (disch:=omega) only [Zan,Zam,Zak,Zad,Zat,ZaT,Zaf,ZaB,Zax,Zae,Option.map_some,cond_true,cond_false,Int.sub_zero,Int.toNat_natCast]);(try simp only [Zbr,ZdZ,Zd1,Zav,Zbz,if_true,if_false]))
  rw [if_neg (by omega)];rfl
 | j+1,i,c,hi,hc=>by
  have ih:=Zlu text k j (i+1) (Zh5 c) (by omega) (ZkV hc)
  rw [ZaH.l0.succ];simp only [ZaH.l0.step]
  ((try simp (disch:=omega) only [Zan,Zam,Zak,Zad,Zat,ZaT,Zaf,ZaB,Zax,Zae,Option.map_some,cond_true,cond_false,Int.sub_zero,Int.toNat_natCast]);(try simp only [Zbr,ZdZ,Zd1,Zav,Zbz,if_true,if_false]))
  rw [if_pos (by omega),ZrE,ZrF c hc]
  have e:ZlS .u32 ((c/2:Nat):Int) (IntKind.wrap .u32 (3988292384*((c%2:Nat):Int)))=((Zh5 c:Nat):Int):=by
   rw [Zil]
   unfold Zh5
   split
   ·rename_i h1
    rw [h1,show ((3988292384:Int)*((1:Nat):Int)%4294967296)=((3988292384:Nat):Int) by rfl,ZfO _ _ (by omega) (by omega)]
   ·rename_i h1
    have:c%2=0:=by omega
    rw [this,show ((3988292384:Int)*((0:Nat):Int)%4294967296)=((0:Nat):Int) by rfl,ZfO _ _ (by omega) (by omega),Nat.xor_zero]
  rw [e,show ((i:Int)+1)=((i+1:Nat):Int) by omega,ih];rfl
theorem Zlt (text:Str) (hs:text.length≤1000000000):∀(j i c:Nat),i+j=text.length→c<4294967296→ZaH.l1 (j+1) ((c:Int),text,(i:Int))=some (((text.drop i).foldl ZgM c:Nat):Int)
 | 0,i,c,hi,hc=>by
  rw [ZaH.l1.succ];simp only [ZaH.l1.step]
  ((try simp (disch:=omega) only [Zan,Zam,Zak,Zad,Zat,ZaT,Zaf,ZaB,Zax,Zae,Option.map_some,cond_true,cond_false,Int.sub_zero,Int.toNat_natCast]);(try simp only [Zbr,ZdZ,Zd1,Zav,Zbz,if_true,if_false]))
  rw [if_neg (by omega),List.drop_eq_nil_of_le (by omega)];rfl
 | j+1,i,c,hi,hc=>by
  have hlt:i<text.length:=by omega
  rw [ZaH.l1.succ];simp only [ZaH.l1.step]
  ((try simp (disch:=omega) only [Zan,Zam,Zak,Zad,Zat,ZaT,Zaf,ZaB,Zax,Zae,Option.map_some,cond_true,cond_false,Int.sub_zero,Int.toNat_natCast]);(try simp only [Zbr,ZdZ,Zd1,Zav,Zbz,if_true,if_false]))
  rw [if_pos (by omega)]
  have hb:(text.getD i 0).toNat<256:=(text.getD i 0).toNat_lt
  rw [Zil,show (((text.getD i 0).toNat:Int)%4294967296)=(((text.getD i 0).toNat:Nat):Int) by omega,ZfO _ _ hc (by omega)]
  have h0:=Zlu text (i:Int) 8 0 (c^^^(text.getD i 0).toNat) (by omega) (Nat.xor_lt_two_pow (n:=32) (by omega) (by omega))
  rw [show ((0:Nat):Int)=0 from rfl] at h0
  rw [show ((8:Int)).toNat+1=8+1 from rfl,h0]
  simp only [Zae]
  ((try simp (disch:=omega) only [Zan,Zam,Zak,Zad,Zat,ZaT,Zaf,ZaB,Zax,Zae,Option.map_some,cond_true,cond_false,Int.sub_zero,Int.toNat_natCast]);(try simp only [Zbr,ZdZ,Zd1,Zav,Zbz,if_true,if_false]))
  rw [show ((i:Int)+1)=((i+1:Nat):Int) by omega]
  have:=Zlt text hs j (i+1) (ZgM c (text.getD i 0)) (by omega) (ZkW hc)
  unfold ZgM at this
  rw [this,List.drop_eq_getElem_cons hlt,Zal hlt];rfl
theorem crc_eq (text:Str) (hs:text.length≤1000000000):crc text=some ((Zqq text:Nat):Int):=by
 unfold crc ZaH
 rw [ZaG]
 have e:ZlS .u32 (IntKind.max .u32) 0=((4294967295:Nat):Int):=ZfO 4294967295 0 (by omega) (by omega)
 have h:=Zlt text hs text.length 0 4294967295 (by omega) (by omega)
 rw [show ((0:Nat):Int)=0 from rfl] at h
 rw [e,h]
 simp only [Zae,List.drop_zero]
 have hl:=Ziy text (c:=4294967295) (by omega)
 have e2:ZlS .u32 (IntKind.max .u32) ((text.foldl ZgM 4294967295:Nat):Int)=((Zqq text:Nat):Int):=by
  rw [show IntKind.max .u32=((4294967295:Nat):Int) from rfl,ZfO _ _ (by omega) hl,Nat.xor_comm];rfl
 rw [e2]
 have:=Zjd text
 ((try simp (disch:=omega) only [Zan,Zam,Zak,Zad,Zat,ZaT,Zaf,ZaB,Zax,Zae,Option.map_some,cond_true,cond_false,Int.sub_zero,Int.toNat_natCast]);(try simp only [Zbr,ZdZ,Zd1,Zav,Zbz,if_true,if_false]))
theorem Zrw:∀(j i c:Nat),i+j=8→c<4294967296→Zdo.l0 (j+1) ((c:Int),(i:Int))=some ((Zix j c:Nat):Int)
 | 0,i,c,hi,hc=>by
  rw [Zdo.l0.succ];simp only [Zdo.l0.step]
  ((try simp (disch:=omega) only [Zan,Zam,Zak,Zad,Zat,ZaT,Zaf,ZaB,Zax,Zae,Option.map_some,cond_true,cond_false,Int.sub_zero,Int.toNat_natCast]);(try simp only [Zbr,ZdZ,Zd1,Zav,Zbz,if_true,if_false]))
  rw [if_neg (by omega)];rfl
 | j+1,i,c,hi,hc=>by
  have ih:=Zrw j (i+1) (Zh5 c) (by omega) (ZkV hc)
  rw [Zdo.l0.succ];simp only [Zdo.l0.step]
  ((try simp (disch:=omega) only [Zan,Zam,Zak,Zad,Zat,ZaT,Zaf,ZaB,Zax,Zae,Option.map_some,cond_true,cond_false,Int.sub_zero,Int.toNat_natCast]);(try simp only [Zbr,ZdZ,Zd1,Zav,Zbz,if_true,if_false]))
  rw [if_pos (by omega),show ((i:Int)+1)=((i+1:Nat):Int) by omega,Zil,show ((c:Int)/2%4294967296)=((c/2:Nat):Int) by omega]
  unfold Zix
  rw [←ih]
  unfold Zh5
  by_cases h:c%2=1
  ·have:=ZfO (c/2) 3988292384 (by omega) (by omega)
   rw [show ((3988292384:Nat):Int)=3988292384 from rfl] at this
   rw [if_pos (by omega),this,if_pos h]
  ·rw [if_neg (by omega),if_neg h]
theorem ZwI (c:Nat) (b:UInt8) (hc:c<4294967296):Zdo (c:Int) ((b.toNat:Nat):Int)=some ((ZgM c b:Nat):Int):=by
 unfold Zdo
 have hb:b.toNat<256:=b.toNat_lt
 have h0:=Zrw 8 0 (c^^^b.toNat) (by omega) (Nat.xor_lt_two_pow (n:=32) (by omega) (by omega))
 rw [Zil,show (((b.toNat:Nat):Int)%4294967296)=((b.toNat:Nat):Int) by omega,ZfO _ _ hc (by omega)]
 rw [show ((0:Nat):Int)=0 from rfl] at h0
 rw [show ((8:Int)-0).toNat+1=8+1 from rfl,h0];rfl
theorem Zrx (text:Str) (hs:text.length≤1000000000):∀(j i c:Nat),i+j=text.length→c<4294967296→Zdt.l0 (j+1) (text,(c:Int),(i:Int))=some (((text.drop i).foldl ZgM c:Nat):Int)
 | 0,i,c,hi,hc=>by
  rw [Zdt.l0.succ];simp only [Zdt.l0.step]
  ((try simp (disch:=omega) only [Zan,Zam,Zak,Zad,Zat,ZaT,Zaf,ZaB,Zax,Zae,Option.map_some,cond_true,cond_false,Int.sub_zero,Int.toNat_natCast]);(try simp only [Zbr,ZdZ,Zd1,Zav,Zbz,if_true,if_false]))
  rw [if_neg (by omega),List.drop_eq_nil_of_le (by omega)];rfl
 | j+1,i,c,hi,hc=>by
  have hlt:i<text.length:=by omega
  rw [Zdt.l0.succ];simp only [Zdt.l0.step]
  ((try simp (disch:=omega) only [Zan,Zam,Zak,Zad,Zat,ZaT,Zaf,ZaB,Zax,Zae,Option.map_some,cond_true,cond_false,Int.sub_zero,Int.toNat_natCast]);(try simp only [Zbr,ZdZ,Zd1,Zav,Zbz,if_true,if_false]))
  rw [if_pos (by omega),ZwI c _ hc]
  ((try simp (disch:=omega) only [Zan,Zam,Zak,Zad,Zat,ZaT,Zaf,ZaB,Zax,Zae,Option.map_some,cond_true,cond_false,Int.sub_zero,Int.toNat_natCast]);(try simp only [Zbr,ZdZ,Zd1,Zav,Zbz,if_true,if_false]))
  rw [show ((i:Int)+1)=((i+1:Nat):Int) by omega,Zrx text hs j (i+1) _ (by omega) (ZkW hc),List.drop_eq_getElem_cons hlt,Zal hlt];rfl
theorem Zom (text:Str) (hs:text.length≤1000000000):ZdK text=some ((Zqq text:Nat):Int):=by
 unfold ZdK Zdt
 rw [ZaG]
 have e:ZlS .u32 0 4294967295=((4294967295:Nat):Int):=ZfO 0 4294967295 (by omega) (by omega)
 have h:=Zrx text hs text.length 0 4294967295 (by omega) (by omega)
 rw [show ((0:Nat):Int)=0 from rfl] at h
 rw [e,h]
 simp only [Zae,List.drop_zero]
 have hl:=Ziy text (c:=4294967295) (by omega)
 have e2:ZlS .u32 ((text.foldl ZgM 4294967295:Nat):Int) 4294967295=((Zqq text:Nat):Int):=ZfO _ 4294967295 hl (by omega)
 rw [e2]
 have:=Zjd text
 ((try simp (disch:=omega) only [Zan,Zam,Zak,Zad,Zat,ZaT,Zaf,ZaB,Zax,Zae,Option.map_some,cond_true,cond_false,Int.sub_zero,Int.toNat_natCast]);(try simp only [Zbr,ZdZ,Zd1,Zav,Zbz,if_true,if_false]))
end Ev
end
section
namespace Ev
open Go
def zs (ns:List Nat):List Int:=ns.map fun (n:Nat)=>(n:Int)
theorem Zag (ns:List Nat):(zs ns).length=ns.length:=by simp [zs]
theorem ZaJ (ns:List Nat) (i:Nat):(zs ns).getD i 0=((ns.getD i 0:Nat):Int):=by
 simp only [zs,List.getD_eq_getElem?_getD,List.getElem?_map]
 cases ns[i]?<;>rfl
theorem ZfV (a b:List Nat):zs (a++b)=zs a++zs b:=by simp [zs]
theorem ZfU (a:List Nat) (i n:Nat):(zs a).set i (n:Int)=zs (a.set i n):=by simp [zs,List.map_set]
theorem Zgh (k n:Nat):List.replicate k (n:Int)=zs (List.replicate k n):=by simp [zs]
def Zby:List Nat→Nat
 | []=>0
 | n::r=>(if 0<n then 2^(15-n) else 0)+Zby r
def Zfg:List Nat→Nat
 | []=>0
 | n::r=>(if 0<n then 1 else 0)+Zfg r
theorem Zpr:∀ns:List Nat,Zfg ns≤ns.length
 | []=>Nat.le_refl _
 | n::r=>by
  have:=Zpr r
  simp only [Zfg,List.length_cons]
  split<;>omega
def Zdm (ns:List Nat):Bool:=decide (ns.length≤300)&&(ns.all (fun n=>decide (n≤15))&&(decide (Zby ns=32768)||decide (Zfg ns=1∧Zby ns=16384)))
def ZgJ (a:Nat):List Nat→Nat
 | []=>a
 | n::r=>ZgJ (if 0<n then n else a) r
theorem ZmJ (ns:List Nat) (hn:ns.length≤300):∀(j i sum many last:Nat),i+j=ns.length→sum≤32768*i→many≤i→
  Zcn.l0 (j+1) ((sum:Int),(many:Int),(last:Int),zs ns,(ns.length:Int),(i:Int)) =
   some (if (ns.drop i).all (fun n=>decide (n≤15)) then .inl (((sum+Zby (ns.drop i):Nat):Int),((many+Zfg (ns.drop i):Nat):Int),((ZgJ last (ns.drop i):Nat):Int)) else .inr false)
 | 0,i,sum,many,last,hi,h1,h2=>by
  rw [Zcn.l0.succ];simp only [Zcn.l0.step]
  rw [ZaR (by omega),List.drop_eq_nil_of_le (by omega)];rfl
 | j+1,i,sum,many,last,hi,h1,h2=>by
  have hlt:i<ns.length:=by omega
  have hd:ns.drop i=ns[i]::ns.drop (i+1):=List.drop_eq_getElem_cons hlt
  have hg:ns.getD i 0=ns[i]:=Zal hlt
  rw [Zcn.l0.succ];simp only [Zcn.l0.step]
  rw [ZaQ hlt,cond_true,Zab _ (by rw [Zag];exact Zay hlt),Int.toNat_natCast,ZaJ,hg,Zd5,hd,List.all_cons]
  simp only [Zae]
  by_cases h15:ns[i]≤15
  ·have e1:decide ((0:Int)≤(ns[i]:Int)∧(ns[i]:Int)≤15)=true:=by simp;omega
   rw [e1,decide_eq_true h15,Bool.true_and]
   simp only [Bool.not_true,cond_false,Zbr]
   by_cases h0:0<ns[i]
   ·have hp:2^(15-ns[i])≤2^15:=Nat.pow_le_pow_right (by omega) (by omega)
    have hp0:0<2^(15-ns[i]):=Nat.two_pow_pos _
    have hsh:=Zfd 1 (15-ns[i]) (by omega) (by omega)
    rw [Nat.one_mul,show ((1:Nat):Int)=1 from rfl,show ((15-ns[i]:Nat):Int)=15-(ns[i]:Int) by omega] at hsh
    rw [if_pos (by omega)]
    ((try simp (disch:=omega) only [Zan,Zam,Zak,Zad,Zat,ZaT,Zaf,ZaB,Zax,Zae,Option.map_some,cond_true,cond_false,Int.sub_zero,Int.toNat_natCast,hsh]);(try simp only [Zbr,ZdZ,Zd1,Zav,Zbz,if_true,if_false,hsh]))
    rw [show (sum:Int)+((2^(15-ns[i]):Nat):Int)=((sum+2^(15-ns[i]):Nat):Int) by omega,show (many:Int)+1=((many+1:Nat):Int) by omega,show (i:Int)+1=((i+1:Nat):Int) by omega,
     ZmJ ns hn j (i+1) _ _ _ (by omega) (by omega) (by omega)]
    simp only [Zby,Zfg,ZgJ,if_pos h0,Nat.add_assoc]
   ·rw [if_neg (by omega)]
    ((try simp (disch:=omega) only [Zan,Zam,Zak,Zad,Zat,ZaT,Zaf,ZaB,Zax,Zae,Option.map_some,cond_true,cond_false,Int.sub_zero,Int.toNat_natCast]);(try simp only [Zbr,ZdZ,Zd1,Zav,Zbz,if_true,if_false]))
    rw [show (i:Int)+1=((i+1:Nat):Int) by omega,ZmJ ns hn j (i+1) _ _ _ (by omega) (by omega) (by omega)]
    simp only [Zby,Zfg,ZgJ,if_neg h0,Nat.zero_add]
  ·have e1:decide ((0:Int)≤(ns[i]:Int)∧(ns[i]:Int)≤15)=false:=by simp;omega
   rw [e1,decide_eq_false h15]
   rfl
theorem Zrm:∀{ns:List Nat} {a:Nat},Zfg ns=1→Zby ns=2^(15-ZgJ a ns)∧0<ZgJ a ns
 | [],a,h=>by simp [Zfg] at h
 | n::r,a,h=>by
  simp only [Zfg] at h
  have z:∀r (a:Nat),Zfg r=0→Zby r=0∧ZgJ a r=a:=fun r=>by
   induction r with
   | nil=>intro _ _;exact ⟨rfl,rfl⟩
   | cons m r ih=>
    intro a h
    simp only [Zfg] at h
    by_cases hm:0<m
    ·rw [if_pos hm] at h;omega
    ·rw [if_neg hm] at h;simp only [Zby,ZgJ];rw [if_neg hm,if_neg hm,(ih a (by omega)).1];exact ⟨rfl,(ih a (by omega)).2⟩
  by_cases hn:0<n
  ·rw [if_pos hn] at h
   have h0:Zfg r=0:=by omega
   simp only [Zby,ZgJ,if_pos hn,(z r n h0).1,(z r n h0).2]
   exact ⟨rfl,hn⟩
  ·rw [if_neg hn] at h
   have:=Zrm (ns:=r) (a:=a) (by omega)
   simp only [Zby,ZgJ,if_neg hn,Nat.zero_add]
   exact this
theorem ZmK (ns:List Nat):Zcn (zs ns)=some (Zdm ns):=by
 unfold Zcn Zdm
 rw [Zag]
 ((try simp (disch:=omega) only [Zan,Zam,Zak,Zad,Zat,ZaT,Zaf,ZaB,Zax,Zae,Option.map_some,cond_true,cond_false,Int.sub_zero,Int.toNat_natCast]);(try simp only [Zbr,ZdZ,Zd1,Zav,Zbz,if_true,if_false]))
 by_cases hn:ns.length≤300
 ·rw [if_neg (by omega)]
  have h:=ZmJ ns hn ns.length 0 0 0 0 (by omega) (by omega) (by omega)
  rw [show ((0:Nat):Int)=0 from rfl,List.drop_zero] at h
  rw [h,decide_eq_true hn]
  cases hall:ns.all (fun n=>decide (n≤15)) with
  | false=>rfl
  | true=>
   simp only [if_true,Zae,Bool.true_and,Nat.zero_add,ZdZ]
   by_cases hk:Zby ns=32768
   ·rw [if_pos (by omega),decide_eq_true hk];rfl
   ·rw [if_neg (by omega),decide_eq_false hk]
    by_cases hu:Zfg ns=1
    ·rw [if_pos (by omega)]
     obtain ⟨e1,e2⟩:=Zrm (a:=0) hu
     simp only [Zae,Bool.false_or]
     have hl15:ZgJ 0 ns≤15∨15<ZgJ 0 ns:=by omega
     have:((((ZgJ 0 ns:Nat):Int))==1)=decide (Zfg ns=1∧Zby ns=16384):=by
      rw [Bool.eq_iff_iff,beq_iff_eq,decide_eq_true_eq]
      constructor
      ·intro h1
       have h1:ZgJ 0 ns=1:=by omega
       exact ⟨hu,by rw [e1,h1]⟩
      ·rintro ⟨_,h2⟩
       rw [h2] at e1
       have hlt:ZgJ 0 ns<15:=by
        rcases Nat.lt_or_ge (ZgJ 0 ns) 15 with q | q
        ·exact q
        ·rw [show 15-ZgJ 0 ns=0 by omega] at e1;simp at e1
       have:(2:Nat)^14=2^(15-ZgJ 0 ns):=by rw [←e1]
       have hcases:ZgJ 0 ns=1∨2≤ZgJ 0 ns:=by omega
       rcases hcases with q | q
       ·omega
       ·have:2^(15-ZgJ 0 ns)<2^14:=Nat.pow_lt_pow_right (by omega) (by omega)
        omega
     rw [this]
    ·rw [if_neg (by omega)]
     have:decide (Zfg ns=1∧Zby ns=16384)=false:=by simp [hu]
     rw [this];rfl
 ·rw [if_pos (by omega),decide_eq_false hn];rfl
theorem Zau {i:Nat}:(decide ((0:Int)≤(i:Int))&&true)=true:=by simp
theorem ZmR (ns:List Nat) (hn:ns.length≤1000000):∀(j i many:Nat),i+j=ns.length→many≤i→ZcT.l0 (j+1) (zs ns,(many:Int),(i:Int))=some ((many+Zfg (ns.drop i):Nat):Int)
 | 0,i,many,hi,h2=>by
  rw [ZcT.l0.succ];simp only [ZcT.l0.step,Zag]
  rw [ZaR (by omega),List.drop_eq_nil_of_le (by omega)];rfl
 | j+1,i,many,hi,h2=>by
  have hlt:i<ns.length:=by omega
  have hd:ns.drop i=ns[i]::ns.drop (i+1):=List.drop_eq_getElem_cons hlt
  have hg:ns.getD i 0=ns[i]:=Zal hlt
  rw [ZcT.l0.succ];simp only [ZcT.l0.step,Zag]
  rw [ZaQ hlt,cond_true,Zab _ Zau,Int.toNat_natCast,ZaJ,hg,hd]
  ((try simp (disch:=omega) only [Zan,Zam,Zak,Zad,Zat,ZaT,Zaf,ZaB,Zax,Zae,Option.map_some,cond_true,cond_false,Int.sub_zero,Int.toNat_natCast]);(try simp only [Zbr,ZdZ,Zd1,Zav,Zbz,if_true,if_false]))
  by_cases h0:0<ns[i]
  ·rw [if_pos (by omega),show (many:Int)+1=((many+1:Nat):Int) by omega,show (i:Int)+1=((i+1:Nat):Int) by omega,ZmR ns hn j (i+1) _ (by omega) (by omega)]
   simp only [Zfg,if_pos h0,Nat.add_assoc]
  ·rw [if_neg (by omega),show (i:Int)+1=((i+1:Nat):Int) by omega,ZmR ns hn j (i+1) _ (by omega) (by omega)]
   simp only [Zfg,if_neg h0,Nat.zero_add]
theorem Zrr (ns:List Nat) (hn:ns.length≤1000000):ZcT (zs ns)=some ((Zfg ns:Nat):Int):=by
 unfold ZcT
 have h:=ZmR ns hn ns.length 0 0 (by omega) (by omega)
 rw [show ((0:Nat):Int)=0 from rfl,List.drop_zero,Nat.zero_add] at h
 rw [Zag,ZaG,h];rfl
theorem Zhf (ns:List Nat) (hn:ns.length≤1000000):∀(j i sum:Nat),i+j=ns.length→sum≤32768*i→
  ZaU.l0 (j+1) (zs ns,(sum:Int),(i:Int))=some (if (ns.drop i).all (fun n=>decide (n≤15)) then .inl (zs ns,((sum+Zby (ns.drop i):Nat):Int)) else .inr false)
 | 0,i,sum,hi,h1=>by
  rw [ZaU.l0.succ];simp only [ZaU.l0.step,Zag]
  rw [ZaR (by omega),List.drop_eq_nil_of_le (by omega)];rfl
 | j+1,i,sum,hi,h1=>by
  have hlt:i<ns.length:=by omega
  have hd:ns.drop i=ns[i]::ns.drop (i+1):=List.drop_eq_getElem_cons hlt
  have hg:ns.getD i 0=ns[i]:=Zal hlt
  rw [ZaU.l0.succ];simp only [ZaU.l0.step,Zag]
  rw [ZaQ hlt,cond_true,Zab _ Zau,Int.toNat_natCast,ZaJ,hg,ZlR,hd,List.all_cons]
  simp only [Zae]
  by_cases h15:ns[i]≤15
  ·have e1:decide ((0:Int)≤(ns[i]:Int)∧(ns[i]:Int)≤15)=true:=by simp;omega
   rw [e1,decide_eq_true h15,Bool.true_and]
   simp only [Bool.not_true,cond_false,Zbr]
   rw [Zab _ Zau]
   by_cases h0:0<ns[i]
   ·have hp:2^(15-ns[i])≤2^15:=Nat.pow_le_pow_right (by omega) (by omega)
    have hp0:0<2^(15-ns[i]):=Nat.two_pow_pos _
    rw [if_pos (by omega),Zab _ Zau,Zaf (by omega) (by omega),show 15-(ns[i]:Int)=((15-ns[i]:Nat):Int) by omega,Zit _ (by omega)]
    ((try simp (disch:=omega) only [Zan,Zam,Zak,Zad,Zat,ZaT,Zaf,ZaB,Zax,Zae,Option.map_some,cond_true,cond_false,Int.sub_zero,Int.toNat_natCast]);(try simp only [Zbr,ZdZ,Zd1,Zav,Zbz,if_true,if_false]))
    rw [show (sum:Int)+((2^(15-ns[i]):Nat):Int)=((sum+2^(15-ns[i]):Nat):Int) by omega,show (i:Int)+1=((i+1:Nat):Int) by omega,
     Zhf ns hn j (i+1) _ (by omega) (by omega)]
    simp only [Zby,if_pos h0,Nat.add_assoc]
   ·rw [if_neg (by omega)]
    ((try simp (disch:=omega) only [Zan,Zam,Zak,Zad,Zat,ZaT,Zaf,ZaB,Zax,Zae,Option.map_some,cond_true,cond_false,Int.sub_zero,Int.toNat_natCast]);(try simp only [Zbr,ZdZ,Zd1,Zav,Zbz,if_true,if_false]))
    rw [show (i:Int)+1=((i+1:Nat):Int) by omega,Zhf ns hn j (i+1) _ (by omega) (by omega)]
    simp only [Zby,if_neg h0,Nat.zero_add]
  ·have e1:decide ((0:Int)≤(ns[i]:Int)∧(ns[i]:Int)≤15)=false:=by simp;omega
   rw [e1,decide_eq_false h15]
   rfl
theorem ZfH (ns:List Nat) (hn:ns.length≤1000000):ZaU (zs ns)=some (Zdm ns):=by
 unfold ZaU Zdm
 have h:=Zhf ns hn ns.length 0 0 (by omega) (by omega)
 rw [show ((0:Nat):Int)=0 from rfl,List.drop_zero,Nat.zero_add] at h
 rw [Zag,ZaG,h]
 cases hall:ns.all (fun n=>decide (n≤15)) with
 | false=>rw [Bool.false_and,Bool.and_false];rfl
 | true=>
  simp only [if_true,Zae,Bool.true_and,Zrr ns hn,Zag]
  have p14:=Zit 14 (by omega)
  have p15:=Zit 15 (by omega)
  rw [show ((14:Nat):Int)=14 from rfl] at p14
  rw [show ((15:Nat):Int)=15 from rfl] at p15
  rw [p14,p15]
  simp only [Zae]
  have one:((bif ((Zfg ns:Nat):Int)==1 then some (((Zby ns:Nat):Int)==((2^14:Nat):Int)) else some false):Option Bool)=some (decide (Zfg ns=1∧Zby ns=16384)):=by
   by_cases hu:Zfg ns=1
   ·have e:(((Zfg ns:Nat):Int)==1)=true:=by simp [hu]
    rw [e,cond_true]
    congr 1
    rw [Bool.eq_iff_iff,beq_iff_eq,decide_eq_true_eq]
    omega
   ·have e:(((Zfg ns:Nat):Int)==1)=false:=by simp;omega
    rw [e];simp [hu]
  rw [one]
  simp only [Zae]
  by_cases h3:ns.length≤300
  ·have e:decide ((ns.length:Int)≤300)=true:=by simp;omega
   rw [e,cond_true,decide_eq_true h3]
   by_cases hk:Zby ns=32768
   ·have e:(((Zby ns:Nat):Int)==((2^15:Nat):Int))=true:=by simp [hk]
    rw [e,decide_eq_true hk];rfl
   ·have e:(((Zby ns:Nat):Int)==((2^15:Nat):Int))=false:=by rw [beq_eq_false_iff_ne];omega
    rw [e,decide_eq_false hk];rfl
  ·have e:decide ((ns.length:Int)≤300)=false:=by simp;omega
   rw [e,decide_eq_false h3];rfl
end Ev
end
section
namespace Ev
open Go
def base (ns:List Nat):Nat→Nat
 | 0=>0
 | 1=>0
 | l+2=>2*(base ns (l+1)+ns.count (l+1))
def ZdC (ns:List Nat) (i:Nat):Nat:=base ns (ns.getD i 0)+(ns.take i).count (ns.getD i 0)
def Zft (ns:List Nat) (l i:Nat):List Nat:=(List.range ns.length).map fun j=>if (1≤ns.getD j 0∧ns.getD j 0<l)∨(1≤l∧ns.getD j 0=l∧j<i) then ZdC ns j else 0
def Zci (ns:List Nat):List Nat:=Zft ns 16 0
theorem Zuu (ns:List Nat):∀l,base ns (l+1)+2*ns.length≤ns.length*2^(l+1)
 | 0=>by simp [base];omega
 | l+1=>by
  have ih:=Zuu ns l
  have hc:=List.count_le_length (a:=l+1) (l:=ns)
  have h1:ns.length*2^(l+1+1)=2*(ns.length*2^(l+1)):=by rw [Nat.pow_succ,←Nat.mul_assoc,Nat.mul_comm]
  have e:base ns (l+1+1)=2*(base ns (l+1)+ns.count (l+1)):=rfl
  omega
theorem Ziz (ns:List Nat) (hn:ns.length≤1000) (l:Nat) (hl:l≤16):base ns l≤100000000:=by
 cases l with
 | zero=>simp [base]
 | succ l=>
  have h:=Zuu ns l
  have hp:2^(l+1)≤2^16:=Nat.pow_le_pow_right (by omega) hl
  have:ns.length*2^(l+1)≤1000*2^16:=Nat.mul_le_mul hn hp
  omega
theorem ZhO (ns:List Nat) (l i:Nat):(Zft ns l i).length=ns.length:=by simp [Zft]
theorem Zol (ns:List Nat) (l:Nat) (hl:1≤l):Zft ns l ns.length=Zft ns (l+1) 0:=by
 unfold Zft
 apply List.map_congr_left
 intro j hj
 have hj:=List.mem_range.1 hj
 by_cases h:(1≤ns.getD j 0∧ns.getD j 0<l)∨(1≤l∧ns.getD j 0=l∧j<ns.length)
 ·rw [if_pos h,if_pos (by omega)]
 ·rw [if_neg h,if_neg (by omega)]
theorem Zok (ns:List Nat):Zft ns 1 0=List.replicate ns.length 0:=by
 apply List.ext_getElem
 ·simp [Zft]
 ·intro i h1 h2
  simp only [Zft,List.getElem_map,List.getElem_range,List.getElem_replicate]
  rw [if_neg (by omega)]
theorem ZqD (ns:List Nat) (l i:Nat) (hl:1≤l) (hi:i<ns.length):Zft ns l (i+1)=if ns.getD i 0=l then (Zft ns l i).set i (base ns l+(ns.take i).count l) else Zft ns l i:=by
 apply List.ext_getElem
 ·split<;>simp [Zft]
 ·intro j h1 h2
  have hj:j<ns.length:=by simpa [Zft] using h1
  by_cases hc:ns.getD i 0=l
  ·simp only [if_pos hc,List.getElem_set]
   by_cases e:i=j
   ·subst e
    rw [if_pos rfl]
    simp only [Zft,List.getElem_map,List.getElem_range]
    rw [if_pos (by omega)]
    unfold ZdC;rw [hc]
   ·rw [if_neg e]
    simp only [Zft,List.getElem_map,List.getElem_range]
    by_cases h:(1≤ns.getD j 0∧ns.getD j 0<l)∨(1≤l∧ns.getD j 0=l∧j<i)
    ·rw [if_pos h,if_pos (by omega)]
    ·rw [if_neg h,if_neg (by omega)]
  ·simp only [if_neg hc]
   simp only [Zft,List.getElem_map,List.getElem_range]
   by_cases h:(1≤ns.getD j 0∧ns.getD j 0<l)∨(1≤l∧ns.getD j 0=l∧j<i)
   ·rw [if_pos h,if_pos (by omega)]
   ·rw [if_neg h]
    by_cases e:j=i
    ·subst e;rw [if_neg (by omega)]
    ·rw [if_neg (by omega)]
theorem ZeM (ns:List Nat) (l i:Nat) (hi:i<ns.length):(ns.take (i+1)).count l=(ns.take i).count l+if ns.getD i 0=l then 1 else 0:=by
 rw [List.take_succ_eq_append_getElem hi,List.count_append,Zal hi]
 by_cases h:ns[i]=l<;>simp [h]
theorem Zuo (ns:List Nat) (hn:ns.length≤1000) (l:Nat) (hl:1≤l) (hl15:l≤15):∀(j i:Nat),i+j=ns.length→
  ZcM.l0 (j+1) (zs ns,((base ns l+(ns.take i).count l:Nat):Int),(l:Int),zs ns,(ns.length:Int),(i:Int),zs (Zft ns l i))=some (zs ns,((base ns l+ns.count l:Nat):Int),(l:Int),zs (Zft ns (l+1) 0))
 | 0,i,hi=>by
  have:i=ns.length:=by omega
  subst this
  rw [ZcM.l0.succ];simp only [ZcM.l0.step,Zag]
  rw [ZaR (by omega),List.take_length,Zol ns l hl];rfl
 | j+1,i,hi=>by
  have hlt:i<ns.length:=by omega
  have ih:=Zuo ns hn l hl hl15 j (i+1) (by omega)
  have hb:=Ziz ns hn l (by omega)
  have hc:=List.count_le_length (a:=l) (l:=ns.take i)
  rw [List.length_take] at hc
  rw [ZeM ns l i hlt,ZqD ns l i hl hlt] at ih
  rw [ZcM.l0.succ];simp only [ZcM.l0.step,Zag,ZhO]
  rw [ZaQ hlt,cond_true,Zab _ Zau,Int.toNat_natCast,ZaJ]
  ((try simp (disch:=omega) only [Zan,Zam,Zak,Zad,Zat,ZaT,Zaf,ZaB,Zax,Zae,Option.map_some,cond_true,cond_false,Int.sub_zero,Int.toNat_natCast]);(try simp only [Zbr,ZdZ,Zd1,Zav,Zbz,if_true,if_false]))
  by_cases h:ns.getD i 0=l
  ·rw [if_pos (by omega),Zab _ Zau,show (i:Int)+1=((i+1:Nat):Int) by omega,show ((base ns l+(ns.take i).count l:Nat):Int)+1=((base ns l+((ns.take i).count l+1):Nat):Int) by omega,ZfU]
   rw [if_pos h,if_pos h] at ih
   rw [ih]
  ·rw [if_neg (by omega),show (i:Int)+1=((i+1:Nat):Int) by omega]
   rw [if_neg h,if_neg h] at ih
   simp only [Nat.add_zero] at ih
   rw [ih]
theorem Zun (ns:List Nat) (hn:ns.length≤1000):∀(j l:Nat),l+j=16→1≤l→ZcM.l1 (j+1) (zs ns,((base ns l:Nat):Int),(l:Int),zs (Zft ns l 0))=some (zs (Zci ns))
 | 0,l,hl,h1=>by
  have:l=16:=by omega
  subst this
  rw [ZcM.l1.succ];simp only [ZcM.l1.step]
  rfl
 | j+1,l,hl,h1=>by
  have ih:=Zun ns hn j (l+1) (by omega) (by omega)
  have h0:=Zuo ns hn l h1 (by omega) ns.length 0 (by omega)
  have hb:=Ziz ns hn l (by omega)
  have hc:=List.count_le_length (a:=l) (l:=ns)
  rw [List.take_zero,List.count_nil,show ((0:Nat):Int)=0 from rfl] at h0
  simp only [Nat.add_zero] at h0
  rw [ZcM.l1.succ];simp only [ZcM.l1.step,Zag]
  ((try simp (disch:=omega) only [Zan,Zam,Zak,Zad,Zat,ZaT,Zaf,ZaB,Zax,Zae,Option.map_some,cond_true,cond_false,Int.sub_zero,Int.toNat_natCast]);(try simp only [Zbr,ZdZ,Zd1,Zav,Zbz,if_true,if_false]))
  rw [if_pos (by omega),h0]
  simp only [Zae]
  ((try simp (disch:=omega) only [Zan,Zam,Zak,Zad,Zat,ZaT,Zaf,ZaB,Zax,Zae,Option.map_some,cond_true,cond_false,Int.sub_zero,Int.toNat_natCast]);(try simp only [Zbr,ZdZ,Zd1,Zav,Zbz,if_true,if_false]))
  have e:base ns (l+1)=2*(base ns l+ns.count l):=by
   cases l with
   | zero=>omega
   | succ l=>rfl
  rw [show ((base ns l+ns.count l:Nat):Int)*2=((base ns (l+1):Nat):Int) by rw [e];omega,show (l:Int)+1=((l+1:Nat):Int) by omega,ih]
theorem ZlZ (ns:List Nat) (hn:ns.length≤1000):ZcM (zs ns)=some (zs (Zci ns)):=by
 unfold ZcM
 have h:=Zun ns hn 15 1 (by omega) (by omega)
 rw [Zok,←Zgh] at h
 rw [Zag,Zak (by omega) (by rw [Int.toNat_natCast];omega),Int.toNat_natCast]
 rw [show ((15:Int)-1).toNat+2=15+1 from rfl]
 have e:((base ns 1:Nat):Int)=0:=rfl
 rw [e,show ((1:Nat):Int)=1 from rfl,show ((0:Nat):Int)=0 from rfl] at h
 rw [h];rfl
theorem ZoU (ns:List Nat) (hn:ns.length≤1000) (l:Nat) (hl:1≤l) (hl15:l≤15):∀(j i:Nat),i+j=ns.length→
  ZaP.l0 (j+1) (zs ns,((base ns l+(ns.take i).count l:Nat):Int),(l:Int),(i:Int),zs (Zft ns l i))=some (zs ns,((base ns l+ns.count l:Nat):Int),(l:Int),zs (Zft ns (l+1) 0))
 | 0,i,hi=>by
  have:i=ns.length:=by omega
  subst this
  rw [ZaP.l0.succ];simp only [ZaP.l0.step,Zag]
  rw [ZaR (by omega),List.take_length,Zol ns l hl];rfl
 | j+1,i,hi=>by
  have hlt:i<ns.length:=by omega
  have ih:=ZoU ns hn l hl hl15 j (i+1) (by omega)
  have hb:=Ziz ns hn l (by omega)
  have hc:=List.count_le_length (a:=l) (l:=ns.take i)
  rw [List.length_take] at hc
  rw [ZeM ns l i hlt,ZqD ns l i hl hlt] at ih
  rw [ZaP.l0.succ];simp only [ZaP.l0.step,Zag,ZhO]
  rw [ZaQ hlt,cond_true,Zab _ Zau,Int.toNat_natCast,ZaJ]
  ((try simp (disch:=omega) only [Zan,Zam,Zak,Zad,Zat,ZaT,Zaf,ZaB,Zax,Zae,Option.map_some,cond_true,cond_false,Int.sub_zero,Int.toNat_natCast]);(try simp only [Zbr,ZdZ,Zd1,Zav,Zbz,if_true,if_false]))
  by_cases h:ns.getD i 0=l
  ·rw [if_pos (by omega),Zab _ Zau,show (i:Int)+1=((i+1:Nat):Int) by omega,show ((base ns l+(ns.take i).count l:Nat):Int)+1=((base ns l+((ns.take i).count l+1):Nat):Int) by omega,ZfU]
   rw [if_pos h,if_pos h] at ih
   rw [ih]
  ·rw [if_neg (by omega),show (i:Int)+1=((i+1:Nat):Int) by omega]
   rw [if_neg h,if_neg h] at ih
   simp only [Nat.add_zero] at ih
   rw [ih]
theorem ZoT (ns:List Nat) (hn:ns.length≤1000):∀(j l:Nat),l+j=16→1≤l→ZaP.l1 (j+1) (zs ns,((base ns l:Nat):Int),(l:Int),zs (Zft ns l 0))=some (zs (Zci ns))
 | 0,l,hl,h1=>by
  have:l=16:=by omega
  subst this
  rw [ZaP.l1.succ];simp only [ZaP.l1.step]
  rfl
 | j+1,l,hl,h1=>by
  have ih:=ZoT ns hn j (l+1) (by omega) (by omega)
  have h0:=ZoU ns hn l h1 (by omega) ns.length 0 (by omega)
  have hb:=Ziz ns hn l (by omega)
  have hc:=List.count_le_length (a:=l) (l:=ns)
  rw [List.take_zero,List.count_nil,show ((0:Nat):Int)=0 from rfl] at h0
  simp only [Nat.add_zero] at h0
  rw [ZaP.l1.succ];simp only [ZaP.l1.step,Zag]
  ((try simp (disch:=omega) only [Zan,Zam,Zak,Zad,Zat,ZaT,Zaf,ZaB,Zax,Zae,Option.map_some,cond_true,cond_false,Int.sub_zero,Int.toNat_natCast]);(try simp only [Zbr,ZdZ,Zd1,Zav,Zbz,if_true,if_false]))
  rw [if_pos (by omega),h0]
  simp only [Zae]
  ((try simp (disch:=omega) only [Zan,Zam,Zak,Zad,Zat,ZaT,Zaf,ZaB,Zax,Zae,Option.map_some,cond_true,cond_false,Int.sub_zero,Int.toNat_natCast]);(try simp only [Zbr,ZdZ,Zd1,Zav,Zbz,if_true,if_false]))
  have e:base ns (l+1)=2*(base ns l+ns.count l):=by
   cases l with
   | zero=>omega
   | succ l=>rfl
  rw [show 2*((base ns l+ns.count l:Nat):Int)=((base ns (l+1):Nat):Int) by rw [e];omega,show (l:Int)+1=((l+1:Nat):Int) by omega,ih]
theorem Ze6 (ns:List Nat) (hn:ns.length≤1000):ZaP (zs ns)=some (zs (Zci ns)):=by
 unfold ZaP
 have h:=ZoT ns hn 15 1 (by omega) (by omega)
 rw [Zok,←Zgh] at h
 rw [Zag,Zak (by omega) (by rw [Int.toNat_natCast];omega),Int.toNat_natCast]
 rw [show ((15:Int)-1).toNat+2=15+1 from rfl]
 have e:((base ns 1:Nat):Int)=0:=rfl
 rw [e,show ((1:Nat):Int)=1 from rfl,show ((0:Nat):Int)=0 from rfl] at h
 rw [h];rfl
def Zfq (ns:List Nat) (k c l:Nat):Option Nat:=(List.range k).find? fun i=>decide (0<ns.getD i 0)&&(decide (ns.getD i 0=l)&&decide (ZdC ns i=c))
theorem Zxh (ns:List Nat) {i j:Nat} (hi:i<ns.length) (hj:j<ns.length) (hl:ns.getD i 0=ns.getD j 0) (hc:ZdC ns i=ZdC ns j):i=j:=by
 have key:∀{i j:Nat},i<j→j<ns.length→ns.getD i 0=ns.getD j 0→ZdC ns i<ZdC ns j:=fun {i j} hij hj hl=>by
  unfold ZdC
  rw [hl]
  have h1:=ZeM ns (ns.getD j 0) i (by omega)
  rw [if_pos hl] at h1
  have h2:(ns.take (i+1)).count (ns.getD j 0)≤(ns.take j).count (ns.getD j 0):=by
   have:ns.take (i+1)=(ns.take j).take (i+1):=by rw [List.take_take,Nat.min_eq_left (by omega)]
   rw [this]
   exact (List.take_sublist _ _).count_le _
  omega
 rcases Nat.lt_trichotomy i j with h | h | h
 ·have:=key h hj hl;omega
 ·exact h
 ·have:=key h hi hl.symm;omega
theorem Ziw {ns:List Nat} {k c l i:Nat} (h:Zfq ns k c l=some i):i<k∧0<ns.getD i 0∧ns.getD i 0=l∧ZdC ns i=c:=by
 unfold Zfq at h
 have h1:=List.find?_some h
 have h2:=List.mem_of_find?_eq_some h
 simp only [Bool.and_eq_true,decide_eq_true_eq] at h1
 exact ⟨List.mem_range.1 h2,h1⟩
theorem Zp7 {ns:List Nat} {k i:Nat} (hk:k≤ns.length) (hi:i<k) (h0:0<ns.getD i 0):Zfq ns k (ZdC ns i) (ns.getD i 0)=some i:=by
 cases h:Zfq ns k (ZdC ns i) (ns.getD i 0) with
 | none=>
  unfold Zfq at h
  have:=List.find?_eq_none.1 h i (List.mem_range.2 hi)
  exact absurd (by simp only [Bool.and_eq_true,decide_eq_true_eq];exact ⟨h0,trivial,trivial⟩) this
 | some j=>
  obtain ⟨h1,h2,h3,h4⟩:=Ziw h
  rw [Zxh ns (by omega) (by omega) h3 h4]
theorem ZkN (ns:List Nat) (k c l:Nat) (hk:k<ns.length):Zfq ns (k+1) c l=if 0<ns.getD k 0∧ns.getD k 0=l∧ZdC ns k=c then some k else Zfq ns k c l:=by
 by_cases h:0<ns.getD k 0∧ns.getD k 0=l∧ZdC ns k=c
 ·rw [if_pos h]
  obtain ⟨h1,rfl,rfl⟩:=h
  exact Zp7 (by omega) (by omega) h1
 ·rw [if_neg h]
  unfold Zfq
  rw [List.range_succ,List.find?_append]
  have:List.find? (fun i=>decide (0<ns.getD i 0)&&(decide (ns.getD i 0=l)&&decide (ZdC ns i=c))) [k]=none:=by
   rw [List.find?_cons]
   have:(decide (0<ns.getD k 0)&&(decide (ns.getD k 0=l)&&decide (ZdC ns k=c)))=false:=by
    rw [Bool.eq_false_iff];intro hh;simp only [Bool.and_eq_true,decide_eq_true_eq] at hh;exact h hh
   rw [this];rfl
  rw [this]
  cases List.find? (fun i=>decide (0<ns.getD i 0)&&(decide (ns.getD i 0=l)&&decide (ZdC ns i=c))) (List.range k)<;>rfl
def Zsr (ns:List Nat) (k:Nat) (es:List ((Int×Int)×Int)):Prop:=∀c l:Nat,ZeG [.int .i64,.int .i64] [.int .i64] es ((c:Int),(l:Int))=(Zfq ns k c l).map fun (n:Nat)=>(n:Int)
theorem ZuZ (es:List ((Int×Int)×Int)) (k k':Int×Int) (v:Int):ZeG [.int .i64,.int .i64] [.int .i64] (Zfx [.int .i64,.int .i64] [.int .i64] es k v) k'=if k'=k then some v else ZeG [.int .i64,.int .i64] [.int .i64] es k':=by
 have eqb:∀a b:Int×Int,El.eqb [.int .i64,.int .i64] a b=decide (a=b):=fun a b=>by
  rw [Bool.eq_iff_iff]
  simp only [El.eqb,Sc.eqb,Bool.and_true,Bool.and_eq_true,beq_iff_eq,decide_eq_true_eq]
  exact ⟨fun h=>Prod.ext h.1 h.2,fun h=>by rw [h];exact ⟨rfl,rfl⟩⟩
 induction es with
 | nil=>
  simp only [Zfx,ZeG,eqb]
  by_cases h:k'=k<;>simp [h]
 | cons e r ih=>
  simp only [Zfx,eqb]
  by_cases h1:k=e.1
  ·rw [decide_eq_true h1,cond_true]
   simp only [ZeG,eqb]
   by_cases h:k'=k
   ·simp [h]
   ·have:¬k'=e.1:=fun x=>h (x.trans h1.symm)
    simp [h,this]
  ·rw [decide_eq_false h1,cond_false]
   simp only [ZeG,eqb]
   by_cases h:k'=e.1
   ·have:¬k'=k:=fun x=>h1 (x.symm.trans h)
    rw [decide_eq_true h,cond_true,cond_true,if_neg this]
   ·rw [decide_eq_false h,cond_false,cond_false];exact ih
end Ev
end
section
namespace Ev
open Go
theorem ZdB (ns:List Nat):(Zci ns).length=ns.length:=ZhO ns 16 0
theorem Zg7 (ns:List Nat) (h15:∀n∈ns,n≤15) (i:Nat) (hi:i<ns.length) (h0:0<ns.getD i 0):(Zci ns).getD i 0=ZdC ns i:=by
 have hm:ns.getD i 0≤15:=by rw [Zal hi];exact h15 _ (List.getElem_mem hi)
 rw [Zal (by rw [ZdB];exact hi)]
 simp only [Zci,Zft,List.getElem_map,List.getElem_range]
 rw [if_pos (by omega)]
theorem Zny (ns:List Nat) (hn:ns.length≤1000) (h15:∀n∈ns,n≤15):∀(j i:Nat) (es:List ((Int×Int)×Int)),i+j=ns.length→Zsr ns i es→
  Ret (Zcq.l0 (j+1) (zs ns,(ns.length:Int),(i:Int),es,zs (Zci ns))) (Zsr ns ns.length)
 | 0,i,es,hi,h=>by
  have:i=ns.length:=by omega
  subst this
  rw [Zcq.l0.succ];simp only [Zcq.l0.step]
  rw [ZaR (by omega)];exact .pure h
 | j+1,i,es,hi,h=>by
  have hlt:i<ns.length:=by omega
  have hm:ns.getD i 0≤15:=by rw [Zal hlt];exact h15 _ (List.getElem_mem hlt)
  rw [Zcq.l0.succ];simp only [Zcq.l0.step,Zag,ZdB]
  rw [ZaQ hlt,cond_true,Zab _ Zau,Zab _ Zau,Int.toNat_natCast,ZaJ,ZaJ]
  ((try simp (disch:=omega) only [Zan,Zam,Zak,Zad,Zat,ZaT,Zaf,ZaB,Zax,Zae,Option.map_some,cond_true,cond_false,Int.sub_zero,Int.toNat_natCast]);(try simp only [Zbr,ZdZ,Zd1,Zav,Zbz,if_true,if_false]))
  by_cases h0:0<ns.getD i 0
  ·rw [if_pos (by omega),Zab _ Zau,show (i:Int)+1=((i+1:Nat):Int) by omega,Zg7 ns h15 i hlt h0]
   refine Zny ns hn h15 j (i+1) _ (by omega) fun c l=>?_
   rw [ZuZ,h c l,ZkN ns i c l hlt]
   by_cases hc:0<ns.getD i 0∧ns.getD i 0=l∧ZdC ns i=c
   ·rw [if_pos hc,if_pos (by obtain ⟨_,rfl,rfl⟩:=hc;rfl)];rfl
   ·rw [if_neg hc,if_neg (fun e=>hc ⟨h0,by have e2:(l:Int)=((ns.getD i 0:Nat):Int):=(Prod.mk.inj e).2;omega,by have e1:(c:Int)=((ZdC ns i:Nat):Int):=(Prod.mk.inj e).1;omega⟩)]
  ·rw [if_neg (by omega),show (i:Int)+1=((i+1:Nat):Int) by omega]
   refine Zny ns hn h15 j (i+1) _ (by omega) fun c l=>?_
   rw [h c l,ZkN ns i c l hlt,if_neg (fun e=>h0 e.1)]
theorem ZkY (ns:List Nat) (hn:ns.length≤1000) (h15:∀n∈ns,n≤15):Ret (Zcq (zs ns)) (Zsr ns ns.length):=by
 unfold Zcq
 rw [ZlZ ns hn]
 simp only [Zae,Zag,ZdB]
 rw [ZaG]
 refine .bind (Zny ns hn h15 ns.length 0 [] (by omega) fun c l=>?_) fun a ha=>.pure ha
 simp [ZeG,Zfq]
def ZfY (ns:List Nat):Nat→Nat→Nat→List Bool→Option (Nat×List Bool)
 | 0,_,_,_=>none
 | _+1,_,_,[]=>none
 | f+1,l,c,b::r=>match Zfq ns ns.length (2*c+b.toNat) l with
  | some i=>some (i,r)
  | none=>ZfY ns f (l+1) (2*c+b.toNat) r
def Zlm (ns:List Nat) (m:Option (List Bool)):Option (Nat×List Bool):=m.bind (ZfY ns 15 1 0)
def ZzM (s:Str) (x:Option (Nat×List Bool)) (v at_:Int) (bad:Bool):Prop:=match x with
 | some (i,l)=>v=(i:Int)∧Rs s at_ bad (some l)
 | none=>v=0∧Rs s at_ bad none
theorem Zos {s:Str} (hs:s.length≤1000000000) (ns:List Nat) (book:List ((Int×Int)×Int)) (hB:Zsr ns ns.length book):∀(f l c:Nat) (at_:Int) (bad:Bool) (m:Option (List Bool)),l+f=16→c<2^l→Rs s at_ bad m→
  Ret (Zbn.l0 (f+1) ((c:Int),(l:Int),s,at_,bad,book)) fun r=>match m.bind (ZfY ns f l c) with
   | some (i,l')=>∃a,r=.inr ((i:Int),s,a,false,book)∧Rs s a false (some l')
   | none=>∃a b,r=.inl (s,a,b,book)∧∃m',Rs s a b m'
 | 0,l,c,at_,bad,m,hf,hc,h=>by
  rw [Zbn.l0.succ];simp only [Zbn.l0.step]
  ((try simp (disch:=omega) only [Zan,Zam,Zak,Zad,Zat,ZaT,Zaf,ZaB,Zax,Zae,Option.map_some,cond_true,cond_false,Int.sub_zero,Int.toNat_natCast]);(try simp only [Zbr,ZdZ,Zd1,Zav,Zbz,if_true,if_false]))
  rw [if_neg (by omega)]
  have:m.bind (ZfY ns 0 l c)=none:=by cases m<;>rfl
  rw [this]
  exact .pure ⟨at_,bad,rfl,_,h⟩
 | f+1,l,c,at_,bad,m,hf,hc,h=>by
  have hp:2^l≤2^15:=Nat.pow_le_pow_right (by omega) (by omega)
  rw [Zbn.l0.succ];simp only [Zbn.l0.step]
  ((try simp (disch:=omega) only [Zan,Zam,Zak,Zad,Zat,ZaT,Zaf,ZaB,Zax,Zae,Option.map_some,cond_true,cond_false,Int.sub_zero,Int.toNat_natCast]);(try simp only [Zbr,ZdZ,Zd1,Zav,Zbz,if_true,if_false]))
  rw [if_pos (by omega)]
  refine .bind (Zkt hs h) ?_
  rintro ⟨r,s',at',bad'⟩ ⟨rfl,b,rfl,h2,h3⟩
  dsimp only at h2 h3 ⊢
  have hb:b.toNat≤1:=by cases b<;>decide
  ((try simp (disch:=omega) only [Zan,Zam,Zak,Zad,Zat,ZaT,Zaf,ZaB,Zax,Zae,Option.map_some,cond_true,cond_false,Int.sub_zero,Int.toNat_natCast]);(try simp only [Zbr,ZdZ,Zd1,Zav,Zbz,if_true,if_false]))
  rw [show 2*(c:Int)+((b.toNat:Nat):Int)=((2*c+b.toNat:Nat):Int) by omega,show (l:Int)+1=((l+1:Nat):Int) by omega,hB _ _]
  have go:∀m2,Rs s' at' bad' m2→Ret (Zbn.l0 (f+1) (((2*c+b.toNat:Nat):Int),((l+1:Nat):Int),s',at',bad',book)) fun r=>match m2.bind (ZfY ns f (l+1) (2*c+b.toNat)) with
   | some (i,l')=>∃a,r=.inr ((i:Int),s',a,false,book)∧Rs s' a false (some l')
   | none=>∃a b,r=.inl (s',a,b,book)∧∃m',Rs s' a b m':=fun m2 h4=>Zos hs ns book hB f (l+1) _ at' bad' m2 (by omega) (by rw [Nat.pow_succ];omega) h4
  have fail:Rs s' at' bad' none→m.bind (ZfY ns (f+1) l c)=none→Ret (((if ((Zfq ns ns.length (2*c+b.toNat) l).map fun (n:Nat)=>(n:Int)).isSome=true then some (!bad') else some false).bind fun c_1=>
    bif c_1 then some (Sum.inr (((Zfq ns ns.length (2*c+b.toNat) l).map fun (n:Nat)=>(n:Int)).getD 0,s',at',bad',book)) else Zbn.l0 (f+1) (((2*c+b.toNat:Nat):Int),((l+1:Nat):Int),s',at',bad',book))) fun r=>match m.bind (ZfY ns (f+1) l c) with
   | some (i,l')=>∃a,r=.inr ((i:Int),s',a,false,book)∧Rs s' a false (some l')
   | none=>∃a b,r=.inl (s',a,b,book)∧∃m',Rs s' a b m':=fun h4 e=>by
   rw [e]
   have hbad:bad'=true:=h4.1
   have e2:(if ((Zfq ns ns.length (2*c+b.toNat) l).map fun (n:Nat)=>(n:Int)).isSome=true then some (!bad') else some false)=some false:=by
    rw [hbad];split<;>rfl
   rw [e2]
   simp only [Zae,cond_false]
   exact go none h4
  have hform:∀(x:Option Int) (y z:Option (((Str×Int×Bool×List ((Int×Int)×Int))⊕(Int×Str×Int×Bool×List ((Int×Int)×Int))))),((bif x.isSome then some (!bad') else some false).bind fun c_1=>bif c_1 then y else z)=((if x.isSome=true then some (!bad') else some false).bind fun c_1=>bif c_1 then y else z):=fun x y z=>by cases x<;>rfl
  rw [hform]
  cases m with
  | none=>exact fail h2 rfl
  | some lst=>
   cases lst with
   | nil=>exact fail h2 rfl
   | cons b' l0=>
    have hbb:=h3 b' l0 rfl
    subst hbb
    have hbad:bad'=false:=h2.1
    subst hbad
    simp only [Option.bind_some,ZfY]
    cases hfi:Zfq ns ns.length (2*c+b.toNat) l with
    | some i=>
     simp only [Option.map_some,Option.isSome_some,if_true,Zae,Bool.not_false,cond_true,Option.getD_some]
     exact .pure ⟨at',rfl,h2⟩
    | none=>
     simp only [Option.map_none,Option.isSome_none,Zae,cond_false,Bool.false_eq_true,if_false]
     exact go (some l0) h2
theorem Zkr {s:Str} {at_:Int} {bad:Bool} {m:Option (List Bool)} (hs:s.length≤1000000000) (ns:List Nat) {book:List ((Int×Int)×Int)} (hB:Zsr ns ns.length book) (h:Rs s at_ bad m) :
  Ret (Zbn s at_ bad book) fun r=>r.2.1=s∧r.2.2.2.2=book∧ZzM s (Zlm ns m) r.1 r.2.2.1 r.2.2.2.1:=by
 unfold Zbn
 have h0:=Zos hs ns book hB 15 1 0 at_ bad m (by omega) (by omega) h
 rw [show ((15:Int)-1).toNat+2=15+1 from rfl]
 refine .bind h0 fun r hr=>?_
 unfold Zlm
 cases hm:m.bind (ZfY ns 15 1 0) with
 | none=>
  rw [hm] at hr
  obtain ⟨a,b,rfl,m',h'⟩:=hr
  exact .pure ⟨rfl,rfl,rfl,h'.fail⟩
 | some x=>
  obtain ⟨i,l'⟩:=x
  rw [hm] at hr
  obtain ⟨a,rfl,h'⟩:=hr
  exact .pure ⟨rfl,rfl,rfl,h'⟩
theorem Zop (s:Str) (at_:Int) (bad:Bool) (ns:List Nat) (hn:ns.length≤1000) (h15:∀n∈ns,n≤15) (c l:Nat) (hl:1≤l):∀(j i:Nat),i+j=ns.length→Zfq ns i c l=none→
  ZaX.l0 (j+1) (zs ns,zs (Zci ns),(c:Int),(l:Int),(i:Int),s,at_,bad)=some (match Zfq ns ns.length c l with
   | some k=>.inr (.inr ((k:Int),s,at_,bad))
   | none=>.inl (zs ns,zs (Zci ns),(c:Int),(l:Int),s,at_,bad))
 | 0,i,hi,h=>by
  have:i=ns.length:=by omega
  subst this
  rw [ZaX.l0.succ];simp only [ZaX.l0.step,Zag]
  rw [ZaR (by omega),h];rfl
 | j+1,i,hi,h=>by
  have hlt:i<ns.length:=by omega
  rw [ZaX.l0.succ];simp only [ZaX.l0.step,Zag,ZdB]
  rw [ZaQ hlt,cond_true,Zab _ Zau,Zab _ Zau,Int.toNat_natCast,ZaJ,ZaJ]
  by_cases hc:0<ns.getD i 0∧ns.getD i 0=l∧ZdC ns i=c
  ·have hfull:Zfq ns ns.length c l=some i:=by
    obtain ⟨h1,rfl,rfl⟩:=hc
    exact Zp7 (Nat.le_refl _) hlt h1
   obtain ⟨h1,h2,h3⟩:=hc
   have e1:(((ns.getD i 0:Nat):Int)==(l:Int))=true:=by rw [beq_iff_eq];omega
   have e2:((((Zci ns).getD i 0:Nat):Int)==(c:Int))=true:=by rw [Zg7 ns h15 i hlt h1,beq_iff_eq];omega
   rw [e1,e2,hfull]
   simp only [cond_true,Zae,Option.map_some]
  ·have hnext:Zfq ns (i+1) c l=none:=by rw [ZkN ns i c l hlt,if_neg hc];exact h
   have ih:=Zop s at_ bad ns hn h15 c l hl j (i+1) (by omega) hnext
   have e:(bif (((ns.getD i 0:Nat):Int)==(l:Int)) then (some ((((Zci ns).getD i 0:Nat):Int)==(c:Int))) else some false)=some false:=by
    by_cases h2:ns.getD i 0=l
    ·have e1:(((ns.getD i 0:Nat):Int)==(l:Int))=true:=by rw [beq_iff_eq];omega
     have e2:((((Zci ns).getD i 0:Nat):Int)==(c:Int))=false:=by
      rw [Zg7 ns h15 i hlt (by omega),beq_eq_false_iff_ne]
      intro h3;exact hc ⟨by omega,h2,by omega⟩
     rw [e1,e2];rfl
    ·have e1:(((ns.getD i 0:Nat):Int)==(l:Int))=false:=by rw [beq_eq_false_iff_ne];omega
     rw [e1];rfl
   rw [e]
   simp only [Zae,cond_false]
   rw [ZdS (by omega),ih]
def ZyN (s:Str) (n:Nat) (x:Option (Nat×List Bool)) (v at_:Int) (bad:Bool):Prop:=match x with
 | some (i,l)=>v=(i:Int)∧Rs s at_ bad (some l)
 | none=>-1≤v∧v<n∧Rs s at_ bad none
theorem Zoo {s:Str} (hs:s.length≤1000000000) (ns:List Nat) (hn:ns.length≤1000) (h15:∀n∈ns,n≤15):∀(f l c:Nat) (at_:Int) (bad:Bool) (m:Option (List Bool)),l+f=16→1≤l→c<2^l→Rs s at_ bad m→
  Ret (ZaX.l1 (f+1) (zs ns,zs (Zci ns),(c:Int),(l:Int),s,at_,bad)) fun r=>match m.bind (ZfY ns f l c) with
   | some (i,l')=>∃a,r=.inr ((i:Int),s,a,false)∧Rs s a false (some l')
   | none=>(∃a b,r=.inl (s,a,b)∧∃m',Rs s a b m')∨(∃k a,k<ns.length∧r=.inr ((k:Int),s,a,true)∧Rs s a true none)
 | 0,l,c,at_,bad,m,hf,h1,hc,h=>by
  rw [ZaX.l1.succ];simp only [ZaX.l1.step]
  ((try simp (disch:=omega) only [Zan,Zam,Zak,Zad,Zat,ZaT,Zaf,ZaB,Zax,Zae,Option.map_some,cond_true,cond_false,Int.sub_zero,Int.toNat_natCast]);(try simp only [Zbr,ZdZ,Zd1,Zav,Zbz,if_true,if_false]))
  rw [if_neg (by omega)]
  have:m.bind (ZfY ns 0 l c)=none:=by cases m<;>rfl
  rw [this]
  exact .pure (.inl ⟨at_,bad,rfl,_,h⟩)
 | f+1,l,c,at_,bad,m,hf,h1,hc,h=>by
  have hp:2^l≤2^15:=Nat.pow_le_pow_right (by omega) (by omega)
  rw [ZaX.l1.succ];simp only [ZaX.l1.step,Zag]
  ((try simp (disch:=omega) only [Zan,Zam,Zak,Zad,Zat,ZaT,Zaf,ZaB,Zax,Zae,Option.map_some,cond_true,cond_false,Int.sub_zero,Int.toNat_natCast]);(try simp only [Zbr,ZdZ,Zd1,Zav,Zbz,if_true,if_false]))
  rw [if_pos (by omega)]
  simp only [Zae]
  cases bad with
  | true=>
   have hm:m=none:=by cases m with
    | none=>rfl
    | some l=>exact absurd h.1 (by simp)
   subst hm
   exact .pure (.inl ⟨at_,true,rfl,_,h⟩)
  | false=>
  simp only [Bool.not_false,cond_true]
  refine .bind (ZsI hs h) ?_
  rintro ⟨r,s',at',bad'⟩ ⟨rfl,b,rfl,h2,h3⟩
  dsimp only at h2 h3 ⊢
  have hb:b.toNat≤1:=by cases b<;>decide
  ((try simp (disch:=omega) only [Zan,Zam,Zak,Zad,Zat,ZaT,Zaf,ZaB,Zax,Zae,Option.map_some,cond_true,cond_false,Int.sub_zero,Int.toNat_natCast]);(try simp only [Zbr,ZdZ,Zd1,Zav,Zbz,if_true,if_false]))
  have h0:=Zop s' at' bad' ns hn h15 (2*c+b.toNat) l h1 ns.length 0 (by omega) (by simp [Zfq])
  rw [show ((0:Nat):Int)=0 from rfl] at h0
  rw [show 2*(c:Int)+((b.toNat:Nat):Int)=((2*c+b.toNat:Nat):Int) by omega,h0]
  simp only [Zae]
  have go:∀m2,Rs s' at' bad' m2→Ret (ZaX.l1 (f+1) (zs ns,zs (Zci ns),((2*c+b.toNat:Nat):Int),((l+1:Nat):Int),s',at',bad')) fun r=>match m2.bind (ZfY ns f (l+1) (2*c+b.toNat)) with
   | some (i,l')=>∃a,r=.inr ((i:Int),s',a,false)∧Rs s' a false (some l')
   | none=>(∃a b,r=.inl (s',a,b)∧∃m',Rs s' a b m')∨(∃k a,k<ns.length∧r=.inr ((k:Int),s',a,true)∧Rs s' a true none):=fun m2 h4=>Zoo hs ns hn h15 f (l+1) _ at' bad' m2 (by omega) (by omega) (by rw [Nat.pow_succ];omega) h4
  have hfail:Rs s' at' bad' none→m.bind (ZfY ns (f+1) l c)=none→Ret (match (match Zfq ns ns.length (2*c+b.toNat) l with
     | some k=>(Sum.inr (Sum.inr ((k:Int),s',at',bad')):(List Int×List Int×Int×Int×Str×Int×Bool)⊕((Str×Int×Bool)⊕(Int×Str×Int×Bool)))
     | none=>.inl (zs ns,zs (Zci ns),((2*c+b.toNat:Nat):Int),(l:Int),s',at',bad')) with
    | .inl (lens3,codes_3,code_2,n2,o6,o7,o8)=>ZaX.l1 (f+1) (lens3,codes_3,code_2,w64 (n2+1),o6,o7,o8)
    | .inr r=>some r) fun r=>match m.bind (ZfY ns (f+1) l c) with
   | some (i,l')=>∃a,r=.inr ((i:Int),s',a,false)∧Rs s' a false (some l')
   | none=>(∃a b,r=.inl (s',a,b)∧∃m',Rs s' a b m')∨(∃k a,k<ns.length∧r=.inr ((k:Int),s',a,true)∧Rs s' a true none):=fun h4 e=>by
   rw [e]
   have hbad:bad'=true:=h4.1
   subst hbad
   cases hfi:Zfq ns ns.length (2*c+b.toNat) l with
   | some k=>exact .pure (.inr ⟨k,at',(Ziw hfi).1,rfl,h4⟩)
   | none=>
    dsimp only
    rw [ZdS (by omega)]
    exact go none h4
  cases m with
  | none=>exact absurd h.1 (by simp)
  | some lst=>
   cases lst with
   | nil=>exact hfail h2 rfl
   | cons b' l0=>
    have hbb:=h3 b' l0 rfl
    subst hbb
    have hbad:bad'=false:=h2.1
    subst hbad
    simp only [Option.bind_some,ZfY]
    cases hfi:Zfq ns ns.length (2*c+b.toNat) l with
    | some i=>exact .pure ⟨at',rfl,h2⟩
    | none=>
     dsimp only
     rw [ZdS (by omega)]
     exact go (some l0) h2
theorem Zkm {s:Str} {at_:Int} {bad:Bool} {m:Option (List Bool)} (hs:s.length≤1000000000) (ns:List Nat) (hn:ns.length≤1000) (h15:∀n∈ns,n≤15) (h:Rs s at_ bad m) :
  Ret (ZaX (zs ns) (zs (Zci ns)) s at_ bad) fun r=>r.2.1=s∧ZyN s ns.length (Zlm ns m) r.1 r.2.2.1 r.2.2.2:=by
 unfold ZaX
 have h0:=Zoo hs ns hn h15 15 1 0 at_ bad m (by omega) (by omega) (by omega) h
 rw [show ((15:Int)-1).toNat+2=15+1 from rfl]
 refine .bind h0 fun r hr=>?_
 unfold Zlm
 cases hm:m.bind (ZfY ns 15 1 0) with
 | none=>
  rw [hm] at hr
  rcases hr with ⟨a,b,rfl,m',h'⟩ | ⟨k,a,hk,rfl,h'⟩
  ·exact Ret.pure ⟨rfl,by dsimp only;omega,by dsimp only;omega,h'.fail⟩
  ·exact Ret.pure ⟨rfl,by dsimp only;omega,by dsimp only;omega,h'⟩
 | some x=>
  obtain ⟨i,l'⟩:=x
  rw [hm] at hr
  obtain ⟨a,rfl,h'⟩:=hr
  exact .pure ⟨rfl,rfl,h'⟩
end Ev
end
section
namespace Ev
open Go
def krU (L:Nat):List Nat→Nat
 | []=>0
 | n::r=>(if 0<n∧n≤L then 2^(15-n) else 0)+krU L r
theorem ZyV (L:Nat):∀ns,krU L ns≤Zby ns
 | []=>Nat.le_refl _
 | n::r=>by
  have:=ZyV L r
  simp only [krU,Zby]
  by_cases h:0<n∧n≤L
  ·rw [if_pos h,if_pos h.1];omega
  ·have:=Nat.two_pow_pos (15-n);rw [if_neg h];split<;>omega
theorem ZpU (L:Nat):∀ns:List Nat,krU (L+1) ns=krU L ns+ns.count (L+1)*2^(15-(L+1))
 | []=>by simp [krU]
 | n::r=>by
  have ih:=ZpU L r
  simp only [krU,List.count_cons,ih]
  by_cases h:n=L+1
  ·subst h
   rw [if_pos (by omega),if_neg (by omega)]
   simp only [beq_self_eq_true,if_true,Nat.add_mul,Nat.one_mul];omega
  ·have hb:(n==L+1)=false:=by simp [h]
   rw [hb]
   simp only [Bool.false_eq_true,if_false,Nat.add_zero]
   by_cases h2:0<n∧n≤L
   ·rw [if_pos h2,if_pos (by omega)];omega
   ·rw [if_neg h2,if_neg (by omega)];omega
theorem Zt3:∀ns:List Nat,krU 0 ns=0
 | []=>rfl
 | n::r=>by simp only [krU,Zt3 r];rw [if_neg (by omega)]
theorem Zxr (ns:List Nat):∀L,L+1≤15→(base ns (L+1)+ns.count (L+1))*2^(15-(L+1))=krU (L+1) ns
 | 0,_=>by
  rw [ZpU,Zt3];simp [base]
 | L+1,h=>by
  have ih:=Zxr ns L (by omega)
  rw [ZpU,←ih]
  have e:base ns (L+1+1)=2*(base ns (L+1)+ns.count (L+1)):=rfl
  rw [e,Nat.add_mul,Nat.mul_comm 2,Nat.mul_assoc]
  congr 2
  rw [show 15-(L+1)=(15-(L+1+1))+1 by omega,Nat.pow_succ,Nat.mul_comm]
theorem Zxq (ns:List Nat) (hk:Zby ns≤32768) (L:Nat) (h1:1≤L) (h15:L≤15):base ns L+ns.count L≤2^L:=by
 obtain ⟨l,rfl⟩:∃l,L=l+1:=⟨L-1,by omega⟩
 have h:=Zxr ns l h15
 have h2:=ZyV (l+1) ns
 have:(base ns (l+1)+ns.count (l+1))*2^(15-(l+1))≤2^(l+1)*2^(15-(l+1)):=by
  rw [h,←Nat.pow_add,show l+1+(15-(l+1))=15 by omega]
  omega
 exact Nat.le_of_mul_le_mul_right this (Nat.two_pow_pos _)
theorem Zqd (ns:List Nat) (i:Nat) (hi:i<ns.length):(ns.take i).count (ns.getD i 0)<ns.count (ns.getD i 0):=by
 have h:=ZeM ns (ns.getD i 0) i hi
 rw [if_pos rfl] at h
 have:(ns.take (i+1)).count (ns.getD i 0)≤ns.count (ns.getD i 0):=(List.take_sublist _ _).count_le _
 omega
theorem Zse (ns:List Nat) (i:Nat) (hi:i<ns.length):ZdC ns i<base ns (ns.getD i 0)+ns.count (ns.getD i 0):=by
 have:=Zqd ns i hi
 unfold ZdC;omega
theorem Zup (ns:List Nat) (hk:Zby ns≤32768) (h15:∀n∈ns,n≤15) (i:Nat) (hi:i<ns.length) (h0:0<ns.getD i 0):ZdC ns i<2^(ns.getD i 0):=by
 have hm:ns.getD i 0≤15:=by rw [Zal hi];exact h15 _ (List.getElem_mem hi)
 have h1:=Zse ns i hi
 have h2:=Zxq ns hk _ h0 hm
 omega
theorem Zxp (ns:List Nat) (l:Nat) (h1:1≤l):∀d,(base ns l+ns.count l)*2^(d+1)≤base ns (l+d+1)
 | 0=>by
  obtain ⟨k,rfl⟩:∃k,l=k+1:=⟨l-1,by omega⟩
  have e:base ns (k+1+0+1)=2*(base ns (k+1)+ns.count (k+1)):=rfl
  rw [e];omega
 | d+1=>by
  have ih:=Zxp ns l h1 d
  obtain ⟨k,rfl⟩:∃k,l=k+1:=⟨l-1,by omega⟩
  have e:base ns (k+1+(d+1)+1)=2*(base ns (k+1+d+1)+ns.count (k+1+d+1)):=by
   rw [show k+1+(d+1)+1=(k+d+1)+2 by omega,show k+1+d+1=k+d+1+1 by omega];rfl
  rw [e,Nat.pow_succ,←Nat.mul_assoc];omega
theorem ZtK (c L:Nat):∀l,l<L→(msb c L).drop l=c.testBit (L-1-l)::(msb c L).drop (l+1):=fun l hl=>by
 have hlen:(msb c L).length=L:=by simp [msb,Zaj]
 rw [List.drop_eq_getElem_cons (by omega)]
 congr 1
 simp only [msb]
 rw [List.getElem_reverse]
 simp only [Zaj]
 exact Zjx c L _ (by omega)
theorem Zoj (ns:List Nat) (hk:Zby ns≤32768) (h15:∀n∈ns,n≤15) (i:Nat) (hi:i<ns.length) (h0:0<ns.getD i 0) (rest:List Bool):∀(d l:Nat),l+d=ns.getD i 0→1≤l→
  ZfY ns (16-l) l (ZdC ns i/2^(d+1)) ((msb (ZdC ns i) (ns.getD i 0)).drop (l-1)++rest)=some (i,rest)
 | 0,l,hl,h1=>by
  have hm:ns.getD i 0≤15:=by rw [Zal hi];exact h15 _ (List.getElem_mem hi)
  have hL:l=ns.getD i 0:=by omega
  rw [ZtK _ _ (l-1) (by omega),show 16-l=(15-l)+1 by omega]
  simp only [List.cons_append,ZfY]
  have e:2*(ZdC ns i/2^(0+1))+(Nat.testBit (ZdC ns i) (ns.getD i 0-1-(l-1))).toNat=ZdC ns i:=by
   rw [show ns.getD i 0-1-(l-1)=0 by omega,←Zep];simp;omega
  rw [e,hL,Zp7 (Nat.le_refl _) hi h0]
  dsimp only
  rw [List.drop_eq_nil_of_le (by simp [msb,Zaj];omega)];rfl
 | d+1,l,hl,h1=>by
  have hm:ns.getD i 0≤15:=by rw [Zal hi];exact h15 _ (List.getElem_mem hi)
  have ih:=Zoj ns hk h15 i hi h0 rest d (l+1) (by omega) (by omega)
  rw [ZtK _ _ (l-1) (by omega),show 16-l=(16-(l+1))+1 by omega]
  simp only [List.cons_append,ZfY]
  have e:2*(ZdC ns i/2^(d+1+1))+(Nat.testBit (ZdC ns i) (ns.getD i 0-1-(l-1))).toNat=ZdC ns i/2^(d+1):=by
   rw [show ns.getD i 0-1-(l-1)=d+1 by omega,←Zep,Nat.pow_succ 2 (d+1),←Nat.div_div_eq_div_mul];omega
  rw [e]
  have hnone:Zfq ns ns.length (ZdC ns i/2^(d+1)) l=none:=by
   cases hf:Zfq ns ns.length (ZdC ns i/2^(d+1)) l with
   | none=>rfl
   | some j=>
    obtain ⟨hj,hj0,hjl,hjc⟩:=Ziw hf
    have t1:=Zse ns j hj
    rw [hjl,hjc] at t1
    have t2:=Zxp ns l h1 d
    have t3:base ns (l+d+1)≤ZdC ns i:=by unfold ZdC;rw [show ns.getD i 0=l+d+1 by omega];omega
    have:(ZdC ns i/2^(d+1))+1≤base ns l+ns.count l:=t1
    have t4:=Nat.mul_le_mul_right (2^(d+1)) this
    have t5:=Nat.lt_mul_div_succ (ZdC ns i) (Nat.two_pow_pos (d+1))
    rw [Nat.mul_comm] at t5
    omega
  rw [hnone]
  dsimp only
  rw [show l-1+1=l+1-1 by omega]
  exact ih
theorem Zwq (ns:List Nat) (hk:Zby ns≤32768) (h15:∀n∈ns,n≤15) (i:Nat) (hi:i<ns.length) (h0:0<ns.getD i 0) (rest:List Bool) :
  Zlm ns (some (msb (ZdC ns i) (ns.getD i 0)++rest))=some (i,rest):=by
 have h:=Zoj ns hk h15 i hi h0 rest (ns.getD i 0-1) 1 (by omega) (by omega)
 have hlt:=Zup ns hk h15 i hi h0
 rw [show ns.getD i 0-1+1=ns.getD i 0 by omega,Nat.div_eq_of_lt hlt] at h
 simpa [Zlm] using h
def Zjj (ns:List Nat) (i:Nat):List Bool:=msb ((Zci ns).getD i 0) (ns.getD i 0)
theorem Zza (ns:List Nat) (h15:∀n∈ns,n≤15) (i:Nat) (hi:i<ns.length) (h0:0<ns.getD i 0):Zjj ns i=msb (ZdC ns i) (ns.getD i 0):=by
 unfold Zjj;rw [Zg7 ns h15 i hi h0]
theorem Zsd (ns:List Nat) (hk:Zby ns≤32768) (h15:∀n∈ns,n≤15) (i:Nat) (hi:i<ns.length):(Zci ns).getD i 0<2^(ns.getD i 0):=by
 by_cases h0:0<ns.getD i 0
 ·rw [Zg7 ns h15 i hi h0];exact Zup ns hk h15 i hi h0
 ·have e:(Zci ns).getD i 0=0:=by
   rw [Zal (by rw [ZdB];exact hi)]
   simp only [Zci,Zft,List.getElem_map,List.getElem_range]
   rw [if_neg (by omega)]
  rw [e];exact Nat.two_pow_pos _
theorem Zjm (ns:List Nat) (hk:Zby ns≤32768) (h15:∀n∈ns,n≤15) (i:Nat) (hi:i<ns.length) (l:List Bool) (hl:l.length≤80000000) :
  ZgB (zs ns) (zs (Zci ns)) (i:Int) (l.length:Int) (ZfJ l)=some ((((l++Zjj ns i).length:Nat):Int),ZfJ (l++Zjj ns i)):=by
 have hm:ns.getD i 0≤15:=by rw [Zal hi];exact h15 _ (List.getElem_mem hi)
 have hlt:=Zsd ns hk h15 i hi
 have hp:2^(ns.getD i 0)≤2^15:=Nat.pow_le_pow_right (by omega) hm
 have ht:=Zpt ((Zci ns).getD i 0) (ns.getD i 0)
 unfold ZgB
 rw [Zag,Zag,ZdB,Zab _ (Zay hi),Zab _ (Zay hi),Int.toNat_natCast,ZaJ,ZaJ,Zth _ _ (by omega) hlt]
 simp only [Zae]
 rw [Zab _ (Zay hi),ZeY _ _ (by omega) (by omega) l (by omega),Zq4]
 rfl
theorem ZmC (ns:List Nat) (hk:Zby ns≤32768) (h15:∀n∈ns,n≤15) (i:Nat) (hi:i<ns.length) (l:List Bool) (hl:l.length≤80000000) :
  ZnT (zs ns) (zs (Zci ns)) (i:Int) (oL l:Int) ((l.length%8:Nat):Int) (oT l)=some ((oL (l++Zjj ns i):Int),(((l++Zjj ns i).length%8:Nat):Int),oT (l++Zjj ns i)):=by
 have hm:ns.getD i 0≤15:=by rw [Zal hi];exact h15 _ (List.getElem_mem hi)
 have hlt:=Zsd ns hk h15 i hi
 have hp:2^(ns.getD i 0)≤2^15:=Nat.pow_le_pow_right (by omega) hm
 have ht:=Zpt ((Zci ns).getD i 0) (ns.getD i 0)
 unfold ZnT Ze5
 rw [Zag,Zag,ZdB,Zab _ (Zay hi),Zab _ (Zay hi),Int.toNat_natCast,ZaJ,ZaJ,ZwJ _ _ (by omega) (by omega)]
 simp only [Zae]
 rw [Zab _ (Zay hi)]
 simp only [Zae]
 rw [ZeF _ _ (by omega) (by omega) l (by omega),Zq4]
 rfl
end Ev
end
section
namespace Ev
open Go
def Zr9 (k:Nat):Nat→List Int→List Int
 | 0,out=>out
 | n+1,out=>Zr9 k n (out++[out.getD (out.length-k) 0])
def Zqp (out:List Int) (l k:Nat):Option (List Int):=if l≤60∧k≤250∧k≤out.length then some (Zr9 k l out) else none
theorem Zlv (k:Nat):∀n out,(Zr9 k n out).length=out.length+n
 | 0,out=>rfl
 | n+1,out=>by rw [Zr9,Zlv k n];simp;omega
theorem Zy3 (b:Int) (l k:Nat) (hk:1≤k) (hl:l≤1000):∀(j i:Nat) (out:List Int),i+j=l→k≤out.length→out.length+j≤1000000→
  add.l0 (j+1) ((l:Int),(i:Int),out,b,(l:Int),(k:Int))=some (Zr9 k j out)
 | 0,i,out,hi,h1,h2=>by
  rw [add.l0.succ];simp only [add.l0.step]
  rw [ZaR (by omega)];rfl
 | j+1,i,out,hi,h1,h2=>by
  rw [add.l0.succ];simp only [add.l0.step]
  rw [ZaQ (by omega),cond_true,Zaf (n:=(out.length:Int)-k) (by omega) (by omega),show (out.length:Int)-k=((out.length-k:Nat):Int) by omega,
   Zab _ (Zay (by omega)),Int.toNat_natCast,Zad (by simp;omega),Zaf (by omega) (by omega),show (i:Int)+1=((i+1:Nat):Int) by omega,
   Zy3 b l k hk hl j (i+1) _ (by omega) (by simp;omega) (by simp;omega)]
  rfl
theorem ZtY (b:Int) (l k:Nat) (hk:1≤k) (hl:l≤1000):∀(j i:Nat) (out:List Int),i+j=l→k≤out.length→out.length+j≤1000000→
  Ze4.l0 (j+1) ((i:Int),out,b,(l:Int),(k:Int))=some (Zr9 k j out)
 | 0,i,out,hi,h1,h2=>by
  rw [Ze4.l0.succ];simp only [Ze4.l0.step]
  rw [ZaR (by omega)];rfl
 | j+1,i,out,hi,h1,h2=>by
  rw [Ze4.l0.succ];simp only [Ze4.l0.step]
  rw [ZaQ (by omega),cond_true,Zaf (n:=(out.length:Int)-k) (by omega) (by omega),show (out.length:Int)-k=((out.length-k:Nat):Int) by omega,
   Zab _ (Zay (by omega)),Int.toNat_natCast,Zad (by simp;omega),Zaf (by omega) (by omega),show (i:Int)+1=((i+1:Nat):Int) by omega,
   ZtY b l k hk hl j (i+1) _ (by omega) (by simp;omega) (by simp;omega)]
  rfl
theorem ZlN (a b:Nat):Zqo (a:Int) (b:Int)=((min a b:Nat):Int):=by
 unfold Zqo
 by_cases h:(b:Int)<(a:Int)
 ·rw [if_pos h];omega
 ·rw [if_neg h];omega
theorem ZzK (l k:Nat) (out:List Int) (hl:3≤l) (hk:1≤k) (ho:out.length≤100000) :
  add 0 (l:Int) (k:Int) out=some ((Zqp out l k).isSome,(Zqp out l k).getD []):=by
 unfold add Zqp
 rw [show (250:Int)=((250:Nat):Int) from rfl,ZlN]
 simp only [Zd5,Zae]
 rw [show (((l:Nat):Int)==0)=false by simp;omega,show ((0:Int) != 0)=false from rfl]
 simp only [cond_false]
 by_cases h60:l≤60
 ·rw [show decide ((3:Int)≤(l:Int)∧(l:Int)≤60)=true by simp;omega]
  simp only [Bool.not_true,cond_false,Zae]
  by_cases hb:k≤250∧k≤out.length
  ·rw [show decide ((1:Int)≤(k:Int)∧(k:Int)≤((min 250 out.length:Nat):Int))=true by simp;omega,if_pos ⟨h60,hb⟩]
   simp only [Bool.not_true,cond_false]
   rw [Int.sub_zero,Int.toNat_natCast]
   have:=Zy3 0 l k hk (by omega) l 0 out (by omega) hb.2 (by omega)
   rw [show ((0:Nat):Int)=0 from rfl] at this
   rw [this];rfl
  ·rw [show decide ((1:Int)≤(k:Int)∧(k:Int)≤((min 250 out.length:Nat):Int))=false by simp;omega,if_neg (fun e=>hb e.2)]
   rfl
 ·rw [show decide ((3:Int)≤(l:Int)∧(l:Int)≤60)=false by simp;omega,if_neg (fun e=>h60 e.1)]
  rfl
theorem ZwG (l k:Nat) (out:List Int) (hl:3≤l) (hk:1≤k) (ho:out.length≤100000) :
  Ze4 0 (l:Int) (k:Int) out=some ((Zqp out l k).isSome,(Zqp out l k).getD out):=by
 unfold Ze4 Zqp
 simp only [ZlR,Zae]
 rw [show (((l:Nat):Int)==0)=false by simp;omega,show ((0:Int) != 0)=false from rfl]
 simp only [cond_false]
 by_cases h60:l≤60
 ·rw [show decide ((3:Int)≤(l:Int)∧(l:Int)≤60)=true by simp;omega]
  simp only [Bool.not_true,cond_false,Zae]
  by_cases h2:k≤250
  ·rw [show decide ((1:Int)≤(k:Int)∧(k:Int)≤250)=true by simp;omega]
   simp only [Bool.not_true,cond_false,Zae]
   by_cases hb:k≤out.length
   ·rw [show decide ((k:Int)>(out.length:Int))=false by simp;omega,if_pos ⟨h60,h2,hb⟩]
    simp only [cond_false]
    rw [Int.sub_zero,Int.toNat_natCast]
    have:=ZtY 0 l k hk (by omega) l 0 out (by omega) hb (by omega)
    rw [show ((0:Nat):Int)=0 from rfl] at this
    rw [this];rfl
   ·rw [show decide ((k:Int)>(out.length:Int))=true by simp;omega,if_neg (fun e=>hb e.2.2)];rfl
  ·rw [show decide ((1:Int)≤(k:Int)∧(k:Int)≤250)=false by simp;omega,if_neg (fun e=>h2 e.2.1)];rfl
 ·rw [show decide ((3:Int)≤(l:Int)∧(l:Int)≤60)=false by simp;omega,if_neg (fun e=>h60 e.1)];rfl
inductive Tk where
 | lit (c:Nat)
 | far (l k:Nat)
def Tk.z:Tk→Int×Int×Int
 | .lit c=>((c:Int),0,0)
 | .far l k=>(0,(l:Int),(k:Int))
def agM (s:Str) (a k:Nat):Nat→Nat→Nat
 | 0,n=>n
 | f+1,n=>if a+n<s.length∧n<60∧s.getD (a+n) 0=s.getD (a+n-k) 0 then agM s a k f (n+1) else n
def Zc1 (s:Str) (a:Nat):Nat→Nat×Nat
 | 0=>(0,0)
 | m+1=>if (Zc1 s a m).1<agM s a (m+1) 60 0 then (agM s a (m+1) 60 0,m+1) else Zc1 s a m
def Zj6 (s:Str) (a:Nat):Tk:=if (Zc1 s a (min 250 a)).1<3 then .lit (s.getD a 0).toNat else .far (Zc1 s a (min 250 a)).1 (Zc1 s a (min 250 a)).2
def Tk.long:Tk→Nat
 | .lit _=>1
 | .far l _=>l
def Zfh (s:Str):Nat→Nat→List Tk
 | 0,_=>[]
 | f+1,a=>if a<s.length then Zj6 s a::Zfh s f (a+(Zj6 s a).long) else []
theorem Zxv (s:Str) (a k:Nat):∀f n,n≤60→n≤agM s a k f n∧agM s a k f n≤60
 | 0,n,h=>⟨Nat.le_refl _,h⟩
 | f+1,n,h=>by
  rw [agM]
  by_cases c:a+n<s.length∧n<60∧s.getD (a+n) 0=s.getD (a+n-k) 0
  ·rw [if_pos c];have:=Zxv s a k f (n+1) (by omega);omega
  ·rw [if_neg c];omega
theorem Zux (s:Str) (a k:Nat):∀f n i,n≤i→i<agM s a k f n→a+i<s.length∧s.getD (a+i) 0=s.getD (a+i-k) 0
 | 0,n,i,h1,h2=>by simp only [agM] at h2;omega
 | f+1,n,i,h1,h2=>by
  rw [agM] at h2
  by_cases c:a+n<s.length∧n<60∧s.getD (a+n) 0=s.getD (a+n-k) 0
  ·rw [if_pos c] at h2
   by_cases e:i=n
   ·subst e;exact ⟨c.1,c.2.2⟩
   ·exact Zux s a k f (n+1) i (by omega) h2
  ·rw [if_neg c] at h2;omega
theorem Zk0 (s:Str) (a:Nat):∀m,(Zc1 s a m).1≤60∧(Zc1 s a m).2≤m∧(0<(Zc1 s a m).1→1≤(Zc1 s a m).2∧(Zc1 s a m).1=agM s a (Zc1 s a m).2 60 0)
 | 0=>by simp [Zc1]
 | m+1=>by
  have ih:=Zk0 s a m
  have hl:=Zxv s a (m+1) 60 0 (by omega)
  rw [Zc1]
  by_cases c:(Zc1 s a m).1<agM s a (m+1) 60 0
  ·rw [if_pos c];exact ⟨hl.2,Nat.le_refl _,fun _=>⟨Nat.le_add_left _ _,rfl⟩⟩
  ·rw [if_neg c];exact ⟨ih.1,by omega,ih.2.2⟩
theorem u8_eq (x y:UInt8):(((x.toNat:Int))==((y.toNat:Int)))=decide (x=y):=by
 by_cases h:x=y
 ·subst h;simp
 ·have:x.toNat≠y.toNat:=fun e=>h (UInt8.toNat_inj.1 e)
  rw [decide_eq_false h];simp;omega
theorem Zpj {α:Type} (s:Str) (hs:s.length≤1000) (a k n:Nat) (ha:a≤1000) (hk:k≤a) (hn:n<60) (x y:Option α) :
  ((bif decide (w64 ((a:Int)+(n:Int))<(s.length:Int)) then (need (decide (0≤(w64 ((a:Int)+(n:Int))))&&decide ((w64 ((a:Int)+(n:Int)))<s.length)) (need (decide (0≤(w64 ((w64 ((a:Int)+(n:Int)))-(k:Int))))&&decide ((w64 ((w64 ((a:Int)+(n:Int)))-(k:Int)))<s.length)) (some (((s.getD (w64 ((a:Int)+(n:Int))).toNat 0).toNat:Int)==((s.getD (w64 ((w64 ((a:Int)+(n:Int)))-(k:Int))).toNat 0).toNat:Int))))) else
 (some false)).bind fun c=>bif c then x else y)=if a+n<s.length∧n<60∧s.getD (a+n) 0=s.getD (a+n-k) 0 then x else y:=by
 have e1:w64 ((a:Int)+(n:Int))=((a+n:Nat):Int):=by rw [Zaf]<;>omega
 have e2:w64 (((a+n:Nat):Int)-(k:Int))=((a+n-k:Nat):Int):=by rw [Zaf]<;>omega
 rw [e1,e2]
 by_cases h1:a+n<s.length
 ·rw [Zab _ (Zay h1),Zab _ (Zay (by omega)),decide_eq_true (show (((a+n:Nat):Int)<(s.length:Int)) by omega),Int.toNat_natCast,Int.toNat_natCast,u8_eq,cond_true]
  simp only [Zae,Zbr]
  by_cases h2:s.getD (a+n) 0=s.getD (a+n-k) 0
  ·rw [if_pos h2,if_pos ⟨h1,hn,h2⟩]
  ·rw [if_neg h2,if_neg (fun e=>h2 e.2.2)]
 ·rw [if_neg (fun e=>h1 e.1),decide_eq_false (show ¬(((a+n:Nat):Int)<(s.length:Int)) by omega)];rfl
theorem ZoR (s:Str) (hs:s.length≤1000) (a k:Nat) (ha:a≤1000) (hk:k≤a):∀(j f n:Nat),n+j=60→j≤f→Zcr.l0 (f+1) (s,(a:Int),(k:Int),(n:Int))=some (agM s a k j n:Int)
 | 0,f,n,h,hf=>by
  rw [Zcr.l0.succ];simp only [Zcr.l0.step,agM]
  have hn:n=60:=by omega
  subst hn
  rw [show decide (((60:Nat):Int)<60)=false by decide]
  simp only [cond_false]
  cases decide (w64 ((a:Int)+((60:Nat):Int))<(s.length:Int))<;>rfl
 | j+1,0,n,h,hf=>by omega
 | j+1,f+1,n,h,hf=>by
  rw [Zcr.l0.succ];simp only [Zcr.l0.step]
  rw [agM,decide_eq_true (show ((n:Int)<60) by omega),cond_true,Zpj s hs a k n ha hk (by omega),Zaf (by omega) (by omega),show (n:Int)+1=((n+1:Nat):Int) by omega,
   ZoR s hs a k ha hk j f (n+1) (by omega) (by omega)]
  split<;>rfl
theorem Zvb (s:Str) (hs:s.length≤1000) (a k:Nat) (ha:a≤1000) (hk:k≤a):Zcr s (a:Int) (k:Int)=some (agM s a k 60 0:Int):=by
 unfold Zcr
 have h:=ZoR s hs a k ha hk 60 61 0 rfl (by omega)
 rw [show ((0:Nat):Int)=0 from rfl] at h
 rw [h];rfl
theorem Zmc (s:Str) (hs:s.length≤1000) (a k:Nat) (ha:a≤1000) (hk:k≤a) (out:List (Int×Int×Int)) (o3 o4 o5:Int):∀(j n:Nat),n+j=60→
  Zar.l0 (j+1) (s,(a:Int),(k:Int),(n:Int),out,o3,o4,o5)=some (s,(a:Int),(k:Int),(agM s a k j n:Int),out,o3,o4,o5)
 | 0,n,h=>by
  rw [Zar.l0.succ];simp only [Zar.l0.step,agM]
  have hn:n=60:=by omega
  subst hn
  rfl
 | j+1,n,h=>by
  rw [Zar.l0.succ];simp only [Zar.l0.step]
  rw [agM,decide_eq_true (show ((n:Int)<60) by omega),cond_true,Zpj s hs a k n ha hk (by omega),Zaf (by omega) (by omega),show (n:Int)+1=((n+1:Nat):Int) by omega,
   Zmc s hs a k ha hk out o3 o4 o5 j (n+1) (by omega)]
  split<;>rfl
def Zqf (c:Int) (b:Nat×Nat):Int×Int×Int:=if b.1<3 then (c,0,0) else (0,(b.1:Int),(b.2:Int))
theorem Zvu (c:Int) (b:Nat×Nat) (n k:Nat):(Zqf c (if b.1<n then (n,k) else b))=if 3≤n∧(Zqf c b).2.1<(n:Int) then (0,(n:Int),(k:Int)) else Zqf c b:=by
 unfold Zqf
 by_cases h1:b.1<n<;>by_cases h2:b.1<3<;>by_cases h3:n<3 <;>
  simp only [h1,h2,h3,if_true,if_false]<;>(first | (exfalso;omega) | (rw [if_pos (by simp;omega)]) | (rw [if_neg (by simp;omega)]) | rfl)
theorem Zhd (s:Str) (hs:s.length≤1000) (a:Nat) (ha:a≤1000) (out:List (Int×Int×Int)) (c:Int):∀(j m:Nat),m+j=min 250 a→∀(b:Int×Int×Int),b=Zqf c (Zc1 s a m)→
  Zar.l1 (j+1) (s,(a:Int),((m+1:Nat):Int),out,b)=some (s,(a:Int),out,Zqf c (Zc1 s a (min 250 a)))
 | 0,m,h,(b1,b2,b3),hb=>by
  have hm:m=min 250 a:=by omega
  subst hm
  rw [Zar.l1.succ];simp only [Zar.l1.step]
  rw [show (250:Int)=((250:Nat):Int) from rfl,ZlN,decide_eq_false (by omega),hb];rfl
 | j+1,m,h,(b1,b2,b3),hb=>by
  rw [Zar.l1.succ];simp only [Zar.l1.step]
  have h0:=Zmc s hs a (m+1) ha (by omega) out b1 b2 b3 60 0 (by omega)
  rw [show ((0:Nat):Int)=0 from rfl] at h0
  rw [show (250:Int)=((250:Nat):Int) from rfl,ZlN,decide_eq_true (by omega),cond_true,show ((60:Int)-0).toNat=60 from rfl,h0]
  have ha2:=Zxv s a (m+1) 60 0 (by omega)
  simp only [Zae]
  rw [Zaf (by omega) (by omega),show ((m+1:Nat):Int)+1=((m+1+1:Nat):Int) by omega]
  have hn:=Zvu c (Zc1 s a m) (agM s a (m+1) 60 0) (m+1)
  have e:Zc1 s a (m+1)=if (Zc1 s a m).1<agM s a (m+1) 60 0 then (agM s a (m+1) 60 0,m+1) else Zc1 s a m:=rfl
  rw [←e,←hb] at hn
  dsimp only at hn
  by_cases h3:3≤agM s a (m+1) 60 0
  ·rw [show decide (((agM s a (m+1) 60 0:Nat):Int)≥3)=true by simp;omega]
   simp only [cond_true,Zae,Zbr]
   by_cases h4:b2<((agM s a (m+1) 60 0:Nat):Int)
   ·rw [if_pos ⟨h3,h4⟩] at hn
    rw [if_pos (show ((agM s a (m+1) 60 0:Nat):Int)>b2 from h4)]
    exact Zhd s hs a ha out c j (m+1) (by omega) _ hn.symm
   ·rw [if_neg (fun e=>h4 e.2)] at hn
    rw [if_neg (show ¬((agM s a (m+1) 60 0:Nat):Int)>b2 from h4)]
    exact Zhd s hs a ha out c j (m+1) (by omega) _ hn.symm
  ·rw [show decide (((agM s a (m+1) 60 0:Nat):Int)≥3)=false by simp;omega]
   rw [if_neg (fun e=>h3 e.1)] at hn
   simp only [cond_false,Zae]
   exact Zhd s hs a ha out c j (m+1) (by omega) _ hn.symm
theorem Zxo (s:Str) (a:Nat):Zqf ((s.getD a 0).toNat:Int) (Zc1 s a (min 250 a))=(Zj6 s a).z:=by
 unfold Zqf Zj6
 split<;>rfl
theorem Zx9 (x:Int) (h:1≤x):ZvC x 1=x:=by
 unfold ZvC;split<;>omega
theorem Zme (s:Str) (a:Nat):1≤(Zj6 s a).long∧(Zj6 s a).long≤60∧ZvC (Zj6 s a).z.2.1 1=((Zj6 s a).long:Int):=by
 have h:=Zk0 s a (min 250 a)
 unfold Zj6
 by_cases c:(Zc1 s a (min 250 a)).1<3
 ·rw [if_pos c];exact ⟨Nat.le_refl _,by simp [Tk.long],by simp [Tk.z,Tk.long,ZvC]⟩
 ·rw [if_neg c]
  exact ⟨by simp only [Tk.long];omega,h.1,Zx9 _ (by simp only [Tk.z];omega)⟩
theorem Zmb (s:Str) (hs:s.length≤300):∀(j a:Nat),s.length≤a+j→a≤600→∀out:List (Int×Int×Int),out.length≤a→
  Zar.l2 (j+1) (s,(a:Int),out)=some (out++(Zfh s j a).map Tk.z)
 | 0,a,h,ha,out,ho=>by
  rw [Zar.l2.succ];simp only [Zar.l2.step]
  rw [ZaR (by omega)];simp [Zfh]
 | j+1,a,h,ha,out,ho=>by
  rw [Zar.l2.succ];simp only [Zar.l2.step]
  by_cases hlt:a<s.length
  ·have h1:=Zhd s (by omega) a (by omega) out ((s.getD a 0).toNat:Int) (min 250 a) 0 (by omega) (((s.getD a 0).toNat:Int),0,0) (by simp [Zqf,Zc1])
   rw [show ((0+1:Nat):Int)=1 from rfl] at h1
   have hb:(s.getD a 0).toNat<256:=UInt8.toNat_lt _
   have hm:((Zqo 250 (a:Int))-1).toNat+2=min 250 a+1∨(min 250 a=0∧((Zqo 250 (a:Int))-1).toNat+2=2):=by
    rw [show (250:Int)=((250:Nat):Int) from rfl,ZlN];omega
   rw [ZaQ hlt,cond_true,Zab _ Zau,Int.toNat_natCast,Zaf (n:=((s.getD a 0).toNat:Int)) (by omega) (by omega)]
   have h1':Zar.l1 (((Zqo 250 (a:Int))-1).toNat+2) (s,(a:Int),1,out,((s.getD a 0).toNat:Int),0,0)=some (s,(a:Int),out,(Zj6 s a).z):=by
    rw [←Zxo]
    rcases hm with e | ⟨e0,e⟩
    ·rw [e];exact h1
    ·rw [e]
     have a0:a=0:=by omega
     subst a0
     rfl
   rw [h1']
   obtain ⟨t1,t2,t3⟩:=Zme s a
   rcases hz:(Zj6 s a).z with ⟨z1,z2,z3⟩
   rw [hz] at t3
   simp only [Zae]
   dsimp only at t3
   rw [Zad (by simp;omega),t3,Zaf (by omega) (by omega),show (a:Int)+((Zj6 s a).long:Int)=((a+(Zj6 s a).long:Nat):Int) by omega,
    Zmb s hs j (a+(Zj6 s a).long) (by omega) (by omega) _ (by simp;omega)]
   rw [Zfh,if_pos hlt,List.map_cons,hz];simp
  ·rw [ZaR (by omega),Zfh,if_neg hlt];simp
def ZiE (s:Str):List Tk:=Zfh s s.length 0
theorem Zmd (s:Str) (hs:s.length≤300):Zar s=some ((ZiE s).map Tk.z):=by
 unfold Zar
 rw [decide_eq_false (by omega),cond_false,ZaG]
 have h:=Zmb s hs s.length 0 (by omega) (by omega) [] (by simp)
 rw [show ((0:Nat):Int)=0 from rfl] at h
 rw [h];simp [ZiE]
theorem Zi6 (s:Str) (hs:s.length≤1000) (a:Nat) (ha:a≤1000) (out:List (Int×Int×Int)):∀(j f m:Nat),m+j=min 250 a→j≤f→∀(l k:Int),l=((Zc1 s a m).1:Int)→k=((Zc1 s a m).2:Int)→
  ZaL.l0 (f+1) (s,(a:Int),l,k,((m+1:Nat):Int),out)=some (s,(a:Int),((Zc1 s a (min 250 a)).1:Int),((Zc1 s a (min 250 a)).2:Int),out)
 | 0,f,m,h,hf,l,k,hl,hk=>by
  have hm:m=min 250 a:=by omega
  rw [ZaL.l0.succ];simp only [ZaL.l0.step]
  subst hl hk
  by_cases h1:m+1≤250
  ·rw [decide_eq_true (show (((m+1:Nat):Int)≤250) by omega),decide_eq_false (show ¬(((m+1:Nat):Int)≤(a:Int)) by omega),hm];rfl
  ·rw [decide_eq_false (show ¬(((m+1:Nat):Int)≤250) by omega),hm];rfl
 | j+1,0,m,h,hf,l,k,hl,hk=>by omega
 | j+1,f+1,m,h,hf,l,k,hl,hk=>by
  rw [ZaL.l0.succ];simp only [ZaL.l0.step]
  rw [decide_eq_true (show (((m+1:Nat):Int)≤250) by omega),decide_eq_true (show (((m+1:Nat):Int)≤(a:Int)) by omega)]
  simp only [cond_true,Zae]
  rw [Zvb s hs a (m+1) ha (by omega)]
  simp only [Zae,Zbr]
  rw [Zaf (by omega) (by omega),show ((m+1:Nat):Int)+1=((m+1+1:Nat):Int) by omega]
  have e:Zc1 s a (m+1)=if (Zc1 s a m).1<agM s a (m+1) 60 0 then (agM s a (m+1) 60 0,m+1) else Zc1 s a m:=rfl
  subst hl hk
  by_cases c:(Zc1 s a m).1<agM s a (m+1) 60 0
  ·rw [if_pos (by omega)]
   rw [if_pos c] at e
   exact Zi6 s hs a ha out j f (m+1) (by omega) (by omega) _ _ (by rw [e]) (by rw [e])
  ·rw [if_neg (by omega)]
   rw [if_neg c] at e
   exact Zi6 s hs a ha out j f (m+1) (by omega) (by omega) _ _ (by rw [e]) (by rw [e])
theorem Zi5 (s:Str) (hs:s.length≤300):∀(j a:Nat),s.length≤a+j→a≤600→∀out:List (Int×Int×Int),out.length≤a→
  ZaL.l1 (j+1) (s,(a:Int),out)=some (out++(Zfh s j a).map Tk.z)
 | 0,a,h,ha,out,ho=>by
  rw [ZaL.l1.succ];simp only [ZaL.l1.step]
  rw [ZaR (by omega)];simp [Zfh]
 | j+1,a,h,ha,out,ho=>by
  rw [ZaL.l1.succ];simp only [ZaL.l1.step]
  by_cases hlt:a<s.length
  ·have h1:=Zi6 s (by omega) a (by omega) out (min 250 a) 250 0 (by omega) (by omega) 0 0 (by simp [Zc1]) (by simp [Zc1])
   rw [show ((0+1:Nat):Int)=1 from rfl] at h1
   have hb:(s.getD a 0).toNat<256:=UInt8.toNat_lt _
   obtain ⟨t1,t2,t3⟩:=Zme s a
   rw [ZaQ hlt,cond_true,show ((250:Int)-1).toNat+2=251 from rfl,h1]
   simp only [Zae,Zbr]
   rw [Zfh,if_pos hlt,List.map_cons]
   by_cases c:(Zc1 s a (min 250 a)).1<3
   ·have et:Zj6 s a=.lit (s.getD a 0).toNat:=by unfold Zj6;rw [if_pos c]
    rw [if_pos (by omega),Zab _ (Zay hlt),Zad (by simp;omega),Int.toNat_natCast,Zaf (n:=((s.getD a 0).toNat:Int)) (by omega) (by omega),Zaf (by omega) (by omega),
     show (a:Int)+1=((a+1:Nat):Int) by omega,Zi5 s hs j (a+1) (by omega) (by omega) _ (by simp;omega),et]
    simp [Tk.z,Tk.long]
   ·have et:Zj6 s a=.far (Zc1 s a (min 250 a)).1 (Zc1 s a (min 250 a)).2:=by unfold Zj6;rw [if_neg c]
    rw [et] at t1 t2
    simp only [Tk.long] at t1 t2
    rw [if_neg (by omega),Zad (by simp;omega),Zaf (by omega) (by omega),
     show (a:Int)+((Zc1 s a (min 250 a)).1:Int)=((a+(Zc1 s a (min 250 a)).1:Nat):Int) by omega,Zi5 s hs j (a+(Zc1 s a (min 250 a)).1) (by omega) (by omega) _ (by simp;omega),et]
    simp [Tk.z,Tk.long]
  ·rw [ZaR (by omega),Zfh,if_neg hlt];simp
theorem ZmQ (s:Str) (hs:s.length≤300):ZaL s=some ((ZiE s).map Tk.z):=by
 unfold ZaL
 rw [ZaG]
 have h:=Zi5 s hs s.length 0 (by omega) (by omega) [] (by simp)
 rw [show ((0:Nat):Int)=0 from rfl] at h
 rw [h];simp [ZiE]
end Ev
end
section
namespace Ev
open Go
def ints (s:Str):List Int:=s.map fun c=>(c.toNat:Int)
theorem ZdV (s:Str):(ints s).length=s.length:=by simp [ints]
theorem ZwO (s:Str) (i:Nat):(ints s).getD i 0=((s.getD i 0).toNat:Int):=by
 by_cases h:i<s.length
 ·rw [Zal (by rw [ZdV];exact h),Zal h];simp [ints]
 ·simp [ints,List.getD,Nat.le_of_not_lt h]
theorem ZmX (s t:Str):ints (s++t)=ints s++ints t:=by simp [ints]
theorem Zkg {α:Type} (s:List α) (n:Nat) (d:α) (h:n<s.length):s.take (n+1)=s.take n++[s.getD n d]:=by
 rw [List.take_succ_eq_append_getElem h,Zal h]
theorem ZvM {α:Type} (s:List α) (n i:Nat) (d:α) (h:i<n):(s.take n).getD i d=s.getD i d:=by
 simp [List.getD,List.getElem?_take,h]
theorem Zr8 (s:Str) (a l k:Nat) (hk:1≤k) (hka:k≤a) (h:∀i,i<l→a+i<s.length∧s.getD (a+i) 0=s.getD (a+i-k) 0):∀(j i:Nat),i+j=l→
  Zr9 k j (ints (s.take (a+i)))=ints (s.take (a+l))
 | 0,i,hi=>by rw [show i=l by omega];rfl
 | j+1,i,hi=>by
  obtain ⟨h1,h2⟩:=h i (by omega)
  rw [Zr9,ZdV,List.length_take,Nat.min_eq_left (by omega),ZwO,ZvM _ _ _ _ (by omega),←h2]
  have e:ints (s.take (a+i))++[((s.getD (a+i) 0).toNat:Int)]=ints (s.take (a+(i+1))):=by
   rw [←Nat.add_assoc,Zkg s (a+i) 0 h1,ZmX];rfl
  rw [e]
  exact Zr8 s a l k hk hka h j (i+1) (by omega)
theorem Ztq {s:Str} {a c:Nat} (h:Zj6 s a=.lit c):c=(s.getD a 0).toNat:=by
 unfold Zj6 at h
 split at h
 ·exact (Tk.lit.inj h).symm
 ·cases h
theorem Ztr {s:Str} {a l k:Nat} (h:Zj6 s a=.far l k) (ha:a≤s.length):3≤l∧l≤60∧1≤k∧k≤250∧a+l≤s.length∧Zqp (ints (s.take a)) l k=some (ints (s.take (a+l))):=by
 have hb:=Zk0 s a (min 250 a)
 unfold Zj6 at h
 by_cases c:(Zc1 s a (min 250 a)).1<3
 ·rw [if_pos c] at h;cases h
 ·rw [if_neg c] at h
  obtain ⟨rfl,rfl⟩:=Tk.far.inj h
  obtain ⟨h1,h2,h3⟩:=hb
  obtain ⟨h4,h5⟩:=h3 (by omega)
  have hs:∀i,i<(Zc1 s a (min 250 a)).1→a+i<s.length∧s.getD (a+i) 0=s.getD (a+i-(Zc1 s a (min 250 a)).2) 0:=fun i hi=>
   Zux s a (Zc1 s a (min 250 a)).2 60 0 i (Nat.zero_le _) (by rw [←h5];exact hi)
  have hlast:=(hs ((Zc1 s a (min 250 a)).1-1) (by omega)).1
  refine ⟨by omega,h1,h4,by omega,by omega,?_⟩
  unfold Zqp
  rw [ZdV,List.length_take,Nat.min_eq_left ha,if_pos ⟨h1,by omega,by omega⟩]
  have:=Zr8 s a _ _ h4 (by omega) hs (Zc1 s a (min 250 a)).1 0 (by omega)
  rw [Nat.add_zero] at this
  rw [this]
def ZcH:List Nat:=[0,0,0,0,0,0,0,0,1,1,1,1,2,2,2,2,3,3,3,3,4,4,4,4,5,5,5,5]
def ZaD:List Nat:=[3,4,5,6,7,8,9,10,11,13,15,17,19,23,27,31,35,43,51,59,67,83,99,115,131,163,195,227]
def Zds:List Nat:=[0,0,0,0,1,1,2,2,3,3,4,4,5,5,6,6,7,7,8,8,9,9,10,10,11,11,12,12,13,13]
def ZaV:List Nat:=[1,2,3,4,5,7,9,13,17,25,33,49,65,97,129,193,257,385,513,769,1025,1537,2049,3073,4097,6145,8193,12289,16385,24577]
theorem Zky:Zb7=some (zs ZaD,zs ZcH):=by kernel_rfl
theorem Zk1:Zcg=some (zs ZaV,zs Zds):=by kernel_rfl
theorem ZfM:Zbc=some (zs ZcH):=by kernel_rfl
theorem ZfN:Zbd=some (zs Zds):=by kernel_rfl
theorem Zi3:Zc6 (zs ZcH) 3=some (zs ZaD):=by kernel_rfl
theorem Zi4:Zc6 (zs Zds) 1=some (zs ZaV):=by kernel_rfl
def Znb:List Nat:=List.replicate 144 8++List.replicate 112 9++List.replicate 24 7++List.replicate 8 8
def ZnY:List Nat:=List.replicate 32 5
theorem Zlq:Zbp=some (zs Znb,zs ZnY):=by kernel_rfl
theorem ZoP:Zdb=some (zs Znb):=by kernel_rfl
theorem ZoQ:Zdc=some (zs ZnY):=by kernel_rfl
def Zb2 (F:List Nat) (n:Nat):Nat:=(F.filter fun x=>decide (x≤n)).length-1
def chkL:Bool:=(List.range 58).all fun i=>
 (Zcu (zs ZaD) (zs ZcH) ((i+3:Nat):Int)==some ((Zb2 ZaD (i+3):Nat):Int))&&(Zfm (zs ZaD) ((i+3:Nat):Int)==some ((Zb2 ZaD (i+3):Nat):Int))&&
 decide (Zb2 ZaD (i+3)<28)&&decide (ZaD.getD (Zb2 ZaD (i+3)) 0≤i+3)&&decide (i+3-ZaD.getD (Zb2 ZaD (i+3)) 0<2^ZcH.getD (Zb2 ZaD (i+3)) 0)
def chkD:Bool:=(List.range 250).all fun i=>
 (Zcu (zs ZaV) (zs Zds) ((i+1:Nat):Int)==some ((Zb2 ZaV (i+1):Nat):Int))&&(Zfm (zs ZaV) ((i+1:Nat):Int)==some ((Zb2 ZaV (i+1):Nat):Int))&&
 decide (Zb2 ZaV (i+1)<30)&&decide (ZaV.getD (Zb2 ZaV (i+1)) 0≤i+1)&&decide (i+1-ZaV.getD (Zb2 ZaV (i+1)) 0<2^Zds.getD (Zb2 ZaV (i+1)) 0)
theorem ZzD:chkL=true:=by kernel_rfl
theorem ZzE:chkD=true:=by kernel_rfl
theorem ZfF (n:Nat) (h1:3≤n) (h2:n≤60):Zcu (zs ZaD) (zs ZcH) (n:Int)=some ((Zb2 ZaD n:Nat):Int)∧Zfm (zs ZaD) (n:Int)=some ((Zb2 ZaD n:Nat):Int)∧
  Zb2 ZaD n<28∧ZaD.getD (Zb2 ZaD n) 0≤n∧n-ZaD.getD (Zb2 ZaD n) 0<2^ZcH.getD (Zb2 ZaD n) 0:=by
 have h:=List.all_eq_true.1 ZzD (n-3) (List.mem_range.2 (by omega))
 rw [show n-3+3=n by omega] at h
 simp only [Bool.and_eq_true,beq_iff_eq,decide_eq_true_eq] at h
 exact ⟨h.1.1.1.1,h.1.1.1.2,h.1.1.2,h.1.2,h.2⟩
theorem Zgk (n:Nat) (h1:1≤n) (h2:n≤250):Zcu (zs ZaV) (zs Zds) (n:Int)=some ((Zb2 ZaV n:Nat):Int)∧Zfm (zs ZaV) (n:Int)=some ((Zb2 ZaV n:Nat):Int)∧
  Zb2 ZaV n<30∧ZaV.getD (Zb2 ZaV n) 0≤n∧n-ZaV.getD (Zb2 ZaV n) 0<2^Zds.getD (Zb2 ZaV n) 0:=by
 have h:=List.all_eq_true.1 ZzE (n-1) (List.mem_range.2 (by omega))
 rw [show n-1+1=n by omega] at h
 simp only [Bool.and_eq_true,beq_iff_eq,decide_eq_true_eq] at h
 exact ⟨h.1.1.1.1,h.1.1.1.2,h.1.1.2,h.1.2,h.2⟩
theorem ZjA (k:Nat):ZcH.getD k 0≤5:=by
 by_cases h:k<28
 ·have:(List.range 28).all (fun k=>decide (ZcH.getD k 0≤5))=true:=by decide
  simpa using List.all_eq_true.1 this k (List.mem_range.2 h)
 ·simp [List.getD,show ZcH.length=28 from rfl,Nat.le_of_not_lt h]
theorem Zj3 (k:Nat):Zds.getD k 0≤13:=by
 by_cases h:k<30
 ·have:(List.range 30).all (fun k=>decide (Zds.getD k 0≤13))=true:=by decide
  simpa using List.all_eq_true.1 this k (List.mem_range.2 h)
 ·simp [List.getD,show Zds.length=30 from rfl,Nat.le_of_not_lt h]
def Tk.Ok:Tk→Prop
 | .lit c=>c<256
 | .far l k=>3≤l∧l≤60∧1≤k∧k≤250
theorem ZlK (s:Str):∀f a,a≤s.length→∀t∈Zfh s f a,t.Ok
 | 0,a,ha,t,h=>by simp [Zfh] at h
 | f+1,a,ha,t,h=>by
  rw [Zfh] at h
  by_cases hlt:a<s.length
  ·rw [if_pos hlt] at h
   cases hk:Zj6 s a with
   | lit c=>
    rw [hk] at h
    rcases List.mem_cons.1 h with rfl | h
    ·rw [Ztq hk];exact UInt8.toNat_lt _
    ·exact ZlK s f (a+1) (by omega) t h
   | far l k=>
    have hf:=Ztr hk ha
    rw [hk] at h
    rcases List.mem_cons.1 h with rfl | h
    ·exact ⟨hf.1,hf.2.1,hf.2.2.1,hf.2.2.2.1⟩
    ·exact ZlK s f (a+l) (by omega) t h
  ·rw [if_neg hlt] at h;simp at h
theorem Zk5 (s:Str):∀f a,(Zfh s f a).length≤f
 | 0,a=>by simp [Zfh]
 | f+1,a=>by
  rw [Zfh];split
  ·have:=Zk5 s f (a+(Zj6 s a).long);simp;omega
  ·simp
def Zqn (ls ds:List Nat):Tk→List Bool
 | .lit c=>Zjj ls c
 | .far l k=>Zjj ls (257+Zb2 ZaD l)++(ZbT (l-ZaD.getD (Zb2 ZaD l) 0) (ZcH.getD (Zb2 ZaD l) 0)++(Zjj ds (Zb2 ZaV k)++ZbT (k-ZaV.getD (Zb2 ZaV k) 0) (Zds.getD (Zb2 ZaV k) 0)))
def ZfX (ls ds:List Nat):List Tk→List Bool
 | []=>Zjj ls 256
 | t::r=>Zqn ls ds t++ZfX ls ds r
def Tk.In (ls ds:List Nat):Tk→Prop
 | .lit c=>c<ls.length
 | .far l k=>257+Zb2 ZaD l<ls.length∧Zb2 ZaV k<ds.length
theorem ZcB (ns:List Nat) (i:Nat) (hi:i<ns.length) (h15:∀n∈ns,n≤15):(Zjj ns i).length≤15:=by
 have hm:ns.getD i 0≤15:=by rw [Zal hi];exact h15 _ (List.getElem_mem hi)
 simp [Zjj,msb,Zaj];exact hm
theorem Zhe (ls ds:List Nat) (hl:∀n∈ls,n≤15) (hd:∀n∈ds,n≤15) (t:Tk) (h:t.In ls ds):(Zqn ls ds t).length≤48:=by
 cases t with
 | lit c=>have:=ZcB ls c h hl;simp only [Zqn];omega
 | far l k=>
  have h1:=ZcB ls _ h.1 hl
  have h2:=ZcB ds _ h.2 hd
  have h3:=ZjA (Zb2 ZaD l)
  have h4:=Zj3 (Zb2 ZaV k)
  simp only [Zqn,List.length_append,Zaj];omega
end Ev
end
section
namespace Ev
open Go
theorem Zaa {α β:Type} (a:α) (f:α→Option β):(some a).bind f=f a:=Eq.trans rfl rfl
def ZgN (ls ds:List Nat) (ts:List Tk):List Bool:=ts.flatMap (Zqn ls ds)
theorem ZgR (ls ds:List Nat):∀ts,ZfX ls ds ts=ZgN ls ds ts++Zjj ls 256
 | []=>rfl
 | t::r=>by rw [ZfX,ZgR ls ds r];simp [ZgN]
theorem ZlD (ts:List Tk) (i:Nat) (h:i<ts.length):(ts.map Tk.z).getD i (0,0,0)=(ts[i]).z:=by
 rw [Zal (by simpa using h)];simp
theorem Zoa (ls ds:List Nat) (hkl:Zby ls≤32768) (hkd:Zby ds≤32768) (hl:∀n∈ls,n≤15) (hd:∀n∈ds,n≤15) (ts:List Tk) (hts:∀t∈ts,t.Ok∧t.In ls ds) (hn:ts.length≤1000) :
  ∀(j i:Nat) (l:List Bool),i+j=ts.length→l.length+48*j≤70000000→
  ZbR.l0 (j+1) (zs ls,zs ds,ts.map Tk.z,(ts.length:Int),(i:Int),(l.length:Int),zs (Zci ls),zs (Zci ds),ZfJ l) =
   some (zs ls,(((l++ZgN ls ds (ts.drop i)).length:Nat):Int),zs (Zci ls),ZfJ (l++ZgN ls ds (ts.drop i)))
 | 0,i,l,hi,hb=>by
  rw [ZbR.l0.succ];simp only [ZbR.l0.step]
  rw [ZaR (by omega),List.drop_eq_nil_of_le (by omega)];simp [ZgN]
 | j+1,i,l,hi,hb=>by
  have hlt:i<ts.length:=by omega
  obtain ⟨hok,hin⟩:=hts ts[i] (List.getElem_mem hlt)
  have hdr:ts.drop i=ts[i]::ts.drop (i+1):=List.drop_eq_getElem_cons hlt
  have htl:=Zhe ls ds hl hd ts[i] hin
  have ih:=Zoa ls ds hkl hkd hl hd ts hts hn j (i+1) (l++Zqn ls ds ts[i]) (by omega) (by simp;omega)
  have e:ZgN ls ds (ts.drop i)=Zqn ls ds ts[i]++ZgN ls ds (ts.drop (i+1)):=by rw [hdr];rfl
  rw [e,←List.append_assoc,←ih]
  rw [ZbR.l0.succ];simp only [ZbR.l0.step]
  rw [ZaQ hlt,cond_true,Zab _ (by rw [List.length_map];exact Zay hlt),Int.toNat_natCast,ZlD ts i hlt,Zaf (n:=(i:Int)+1) (by omega) (by omega),show (i:Int)+1=((i+1:Nat):Int) by omega]
  cases hk:ts[i] with
  | lit c=>
   rw [hk] at hok hin
   have hc:=Zjm ls hkl hl c hin l (by omega)
   simp only [Tk.z]
   rw [show ((0:Int)==0)=true from rfl,cond_true,hc]
   simp only [Zaa,Zqn]
  | far n k=>
   rw [hk] at hok hin
   obtain ⟨o1,o2,o3,o4⟩:=hok
   obtain ⟨i1,i2⟩:=hin
   obtain ⟨a1,a2,a3,a4,a5⟩:=ZfF n o1 o2
   obtain ⟨b1,b2,b3,b4,b5⟩:=Zgk k o3 o4
   have hlb:=ZjA (Zb2 ZaD n)
   have hbb:=Zj3 (Zb2 ZaV k)
   have hs1:=ZcB ls (257+Zb2 ZaD n) i1 hl
   have hs2:=ZcB ds (Zb2 ZaV k) i2 hd
   have c1:=Zjm ls hkl hl _ i1 l (by omega)
   have c2:=ZeY (n-ZaD.getD (Zb2 ZaD n) 0) (ZcH.getD (Zb2 ZaD n) 0) (by omega) (by omega) (l++Zjj ls (257+Zb2 ZaD n)) (by simp only [List.length_append];omega)
   have c3:=Zjm ds hkd hd _ i2 ((l++Zjj ls (257+Zb2 ZaD n))++ZbT (n-ZaD.getD (Zb2 ZaD n) 0) (ZcH.getD (Zb2 ZaD n) 0)) (by simp only [List.length_append,Zaj];omega)
   have c4:=ZeY (k-ZaV.getD (Zb2 ZaV k) 0) (Zds.getD (Zb2 ZaV k) 0) (by omega) (by omega) (((l++Zjj ls (257+Zb2 ZaD n))++ZbT (n-ZaD.getD (Zb2 ZaD n) 0) (ZcH.getD (Zb2 ZaD n) 0))++Zjj ds (Zb2 ZaV k)) (by simp only [List.length_append,Zaj];omega)
   have eL:=Zky
   have eB:=Zk1
   have gL:=fun i:Nat=>ZaJ ZaD i
   have gM:=fun i:Nat=>ZaJ ZcH i
   have gB:=fun i:Nat=>ZaJ ZaV i
   have gC:=fun i:Nat=>ZaJ Zds i
   have nL:(zs ZaD).length=28:=Zag ZaD
   have nM:(zs ZcH).length=28:=Zag ZcH
   have nB:(zs ZaV).length=30:=Zag ZaV
   have nC:(zs Zds).length=30:=Zag Zds
   generalize zs ZaD=A at eL a1 a2 gL nL
   generalize zs ZcH=A' at eL a1 gM nM
   generalize zs ZaV=B at eB b1 b2 gB nB
   generalize zs Zds=B' at eB b1 gC nC
   simp only [Tk.z]
   rw [show ((n:Int)==0)=false by simp;omega,cond_false,eL,eB]
   simp only [Zaa]
   rw [a1]
   simp only [Zaa]
   rw [Zaf (n:=257+((Zb2 ZaD n:Nat):Int)) (by omega) (by omega),show (257:Int)+((Zb2 ZaD n:Nat):Int)=((257+Zb2 ZaD n:Nat):Int) by omega,c1]
   simp only [Zaa]
   rw [Zab _ (Zay (by rw [nL];exact a3)),Zab _ (Zay (by rw [nM];exact a3)),Int.toNat_natCast,gL,gM,
    Zaf (n:=(n:Int)-((ZaD.getD (Zb2 ZaD n) 0:Nat):Int)) (by omega) (by omega),show (n:Int)-((ZaD.getD (Zb2 ZaD n) 0:Nat):Int)=((n-ZaD.getD (Zb2 ZaD n) 0:Nat):Int) by omega,c2]
   simp only [Zaa]
   rw [b1]
   simp only [Zaa]
   rw [c3]
   simp only [Zaa]
   rw [Zab _ (Zay (by rw [nB];exact b3)),Zab _ (Zay (by rw [nC];exact b3)),Int.toNat_natCast,gB,gC,
    Zaf (n:=(k:Int)-((ZaV.getD (Zb2 ZaV k) 0:Nat):Int)) (by omega) (by omega),show (k:Int)-((ZaV.getD (Zb2 ZaV k) 0:Nat):Int)=((k-ZaV.getD (Zb2 ZaV k) 0:Nat):Int) by omega,c4]
   simp only [Zaa,Zqn,List.append_assoc]
theorem Zob (ls ds:List Nat) (hkl:Zby ls≤32768) (hkd:Zby ds≤32768) (hl:∀n∈ls,n≤15) (hd:∀n∈ds,n≤15) (h1:ls.length≤300) (h2:ds.length≤300) (h256:256<ls.length) (ts:List Tk) (hts:∀t∈ts,t.Ok∧t.In ls ds) (hn:ts.length≤1000)
  (l:List Bool) (hb:l.length≤60000000):ZbR (ts.map Tk.z) (zs ls) (zs ds) (l.length:Int) (ZfJ l)=some ((((l++ZfX ls ds ts).length:Nat):Int),ZfJ (l++ZfX ls ds ts)):=by
 unfold ZbR
 rw [ZlZ ls (by omega),ZlZ ds (by omega)]
 simp only [Zae,List.length_map]
 rw [ZaG]
 have h:=Zoa ls ds hkl hkd hl hd ts hts hn ts.length 0 l (by omega) (by omega)
 rw [show ((0:Nat):Int)=0 from rfl] at h
 rw [h,List.drop_zero]
 simp only [Zae]
 have hbl:(ZgN ls ds ts).length≤48*ts.length:=by
  clear h hn hb
  induction ts with
  | nil=>simp [ZgN]
  | cons t r ih=>
   have:=ih (fun t h=>hts t (List.mem_cons_of_mem _ h))
   have ht:=Zhe ls ds hl hd t (hts t (List.mem_cons_self ..)).2
   simp only [ZgN,List.flatMap_cons,List.length_append,List.length_cons] at this ⊢;omega
 have hc:=Zjm ls hkl hl 256 h256 (l++ZgN ls ds ts) (by simp;omega)
 rw [show ((256:Nat):Int)=256 from rfl] at hc
 rw [hc,ZgR]
 simp only [Zae,List.append_assoc]
theorem Zoy (ls ds:List Nat) (hkl:Zby ls≤32768) (hkd:Zby ds≤32768) (hl:∀n∈ls,n≤15) (hd:∀n∈ds,n≤15) (ts:List Tk) (hts:∀t∈ts,t.Ok∧t.In ls ds) (hn:ts.length≤1000) :
  ∀(j i:Nat) (l:List Bool),i+j=ts.length→l.length+48*j≤70000000→
  ZbS.l0 (j+1) (ts.map Tk.z,zs ls,zs ds,(i:Int),(oL l:Int),((l.length%8:Nat):Int),zs (Zci ls),zs (Zci ds),zs ZaD,zs ZaV,oT l) =
   some (zs ls,(oL (l++ZgN ls ds (ts.drop i)):Int),(((l++ZgN ls ds (ts.drop i)).length%8:Nat):Int),zs (Zci ls),oT (l++ZgN ls ds (ts.drop i)))
 | 0,i,l,hi,hb=>by
  rw [ZbS.l0.succ];simp only [ZbS.l0.step,List.length_map]
  rw [ZaR (by omega),List.drop_eq_nil_of_le (by omega)];simp [ZgN]
 | j+1,i,l,hi,hb=>by
  have hlt:i<ts.length:=by omega
  obtain ⟨hok,hin⟩:=hts ts[i] (List.getElem_mem hlt)
  have hdr:ts.drop i=ts[i]::ts.drop (i+1):=List.drop_eq_getElem_cons hlt
  have htl:=Zhe ls ds hl hd ts[i] hin
  have ih:=Zoy ls ds hkl hkd hl hd ts hts hn j (i+1) (l++Zqn ls ds ts[i]) (by omega) (by simp;omega)
  have e:ZgN ls ds (ts.drop i)=Zqn ls ds ts[i]++ZgN ls ds (ts.drop (i+1)):=by rw [hdr];rfl
  rw [e,←List.append_assoc,←ih]
  rw [ZbS.l0.succ];simp only [ZbS.l0.step,List.length_map]
  rw [ZaQ hlt,cond_true,Zab _ Zau,Int.toNat_natCast,ZlD ts i hlt,Zaf (n:=(i:Int)+1) (by omega) (by omega),show (i:Int)+1=((i+1:Nat):Int) by omega]
  cases hk:ts[i] with
  | lit c=>
   rw [hk] at hok hin
   have hc:=ZmC ls hkl hl c hin l (by omega)
   simp only [Tk.z]
   rw [show ((0:Int)==0)=true from rfl,cond_true,hc]
   simp only [Zae,Zqn]
  | far n k=>
   rw [hk] at hok hin
   obtain ⟨o1,o2,o3,o4⟩:=hok
   obtain ⟨i1,i2⟩:=hin
   obtain ⟨a1,a2,a3,a4,a5⟩:=ZfF n o1 o2
   obtain ⟨b1,b2,b3,b4,b5⟩:=Zgk k o3 o4
   have hlb:=ZjA (Zb2 ZaD n)
   have hbb:=Zj3 (Zb2 ZaV k)
   have hs1:=ZcB ls (257+Zb2 ZaD n) i1 hl
   have hs2:=ZcB ds (Zb2 ZaV k) i2 hd
   have c1:=ZmC ls hkl hl _ i1 l (by omega)
   have c2:=ZeF (n-ZaD.getD (Zb2 ZaD n) 0) (ZcH.getD (Zb2 ZaD n) 0) (by omega) (by omega) (l++Zjj ls (257+Zb2 ZaD n)) (by simp only [List.length_append];omega)
   have c3:=ZmC ds hkd hd _ i2 ((l++Zjj ls (257+Zb2 ZaD n))++ZbT (n-ZaD.getD (Zb2 ZaD n) 0) (ZcH.getD (Zb2 ZaD n) 0)) (by simp only [List.length_append,Zaj];omega)
   have c4:=ZeF (k-ZaV.getD (Zb2 ZaV k) 0) (Zds.getD (Zb2 ZaV k) 0) (by omega) (by omega) (((l++Zjj ls (257+Zb2 ZaD n))++ZbT (n-ZaD.getD (Zb2 ZaD n) 0) (ZcH.getD (Zb2 ZaD n) 0))++Zjj ds (Zb2 ZaV k)) (by simp only [List.length_append,Zaj];omega)
   simp only [Tk.z]
   rw [show ((n:Int)==0)=false by simp;omega,cond_false,ZfM,ZfN]
   simp only [Zae,a2,b2]
   rw [Zaf (n:=257+((Zb2 ZaD n:Nat):Int)) (by omega) (by omega),show (257:Int)+((Zb2 ZaD n:Nat):Int)=((257+Zb2 ZaD n:Nat):Int) by omega,c1]
   simp only [Zae]
   rw [Zab _ (Zay (by rw [Zag];exact a3)),Zab _ (Zay (by rw [Zag];exact a3)),Int.toNat_natCast,ZaJ,ZaJ,
    Zaf (n:=(n:Int)-((ZaD.getD (Zb2 ZaD n) 0:Nat):Int)) (by omega) (by omega),show (n:Int)-((ZaD.getD (Zb2 ZaD n) 0:Nat):Int)=((n-ZaD.getD (Zb2 ZaD n) 0:Nat):Int) by omega,c2]
   simp only [Zae]
   rw [c3]
   simp only [Zae]
   rw [Zab _ (Zay (by rw [Zag];exact b3)),Zab _ (Zay (by rw [Zag];exact b3)),Int.toNat_natCast,ZaJ,ZaJ,
    Zaf (n:=(k:Int)-((ZaV.getD (Zb2 ZaV k) 0:Nat):Int)) (by omega) (by omega),show (k:Int)-((ZaV.getD (Zb2 ZaV k) 0:Nat):Int)=((k-ZaV.getD (Zb2 ZaV k) 0:Nat):Int) by omega,c4]
   simp only [Zae,Zqn,List.append_assoc]
theorem Zgz (ls ds:List Nat) (hl:∀n∈ls,n≤15) (hd:∀n∈ds,n≤15):∀ts:List Tk,(∀t∈ts,t.Ok∧t.In ls ds)→(ZgN ls ds ts).length≤48*ts.length
 | [],_=>by simp [ZgN]
 | t::r,h=>by
  have:=Zgz ls ds hl hd r (fun t ht=>h t (List.mem_cons_of_mem _ ht))
  have ht:=Zhe ls ds hl hd t (h t (List.mem_cons_self ..)).2
  simp only [ZgN,List.flatMap_cons,List.length_append,List.length_cons] at this ⊢;omega
theorem Zoz (ls ds:List Nat) (hkl:Zby ls≤32768) (hkd:Zby ds≤32768) (hl:∀n∈ls,n≤15) (hd:∀n∈ds,n≤15) (h1:ls.length≤300) (h2:ds.length≤300) (h256:256<ls.length) (ts:List Tk) (hts:∀t∈ts,t.Ok∧t.In ls ds) (hn:ts.length≤1000)
  (l:List Bool) (hb:l.length≤60000000):ZbS (ts.map Tk.z) (zs ls) (zs ds) (oL l:Int) ((l.length%8:Nat):Int) (oT l) =
   some ((oL (l++ZfX ls ds ts):Int),(((l++ZfX ls ds ts).length%8:Nat):Int),oT (l++ZfX ls ds ts)):=by
 unfold ZbS
 rw [Ze6 ls (by omega),Ze6 ds (by omega),ZfM,ZfN]
 simp only [Zae,List.length_map,Zi3,Zi4]
 rw [ZaG]
 have h:=Zoy ls ds hkl hkd hl hd ts hts hn ts.length 0 l (by omega) (by omega)
 rw [show ((0:Nat):Int)=0 from rfl] at h
 rw [h,List.drop_zero]
 simp only [Zae]
 have hbl:=Zgz ls ds hl hd ts hts
 have hc:=ZmC ls hkl hl 256 h256 (l++ZgN ls ds ts) (by simp;omega)
 rw [show ((256:Nat):Int)=256 from rfl] at hc
 rw [hc,ZgR]
 simp only [Zae,List.append_assoc]
end Ev
end
section
namespace Ev
open Go
def ZhN (l:List Bool):Str:=ZbF (ZfJ l)
theorem ZhM (l:List Bool):(ZhN l).length=(l.length+7)/8:=by simp [ZhN,ZbF,Zdz]
theorem ZuP (l:List Bool) (h:8≤l.length):ZfJ l=((ZcD (l.take 8):Nat):Int)::ZfJ (l.drop 8):=by
 unfold ZfJ
 rw [show (l.length+7)/8=((l.drop 8).length+7)/8+1 by rw [List.length_drop];omega,List.range_succ_eq_map,List.map_cons,List.map_map]
 congr 1
 apply List.map_congr_left
 intro i _
 simp only [Function.comp,List.drop_drop]
 rw [show 8*(i+1)=8+8*i by omega]
theorem Zxk (l:List Bool) (h:l.length=8):ZbT (UInt8.ofNat ((ZcD l:Nat):Int).toNat).toNat 8=l:=by
 have hv:=Zl9 l
 rw [h] at hv
 rw [Int.toNat_natCast,UInt8.toNat_ofNat_of_lt' (by omega)]
 have:=Zq3 l
 rwa [h] at this
theorem Zhu:∀(k:Nat) (l:List Bool),l.length=8*k→Zdx (ZhN l)=l
 | 0,l,h=>by
  have:l=[]:=List.length_eq_zero_iff.1 (by omega)
  subst this;rfl
 | k+1,l,h=>by
  have e:ZhN l=UInt8.ofNat ((ZcD (l.take 8):Nat):Int).toNat::ZhN (l.drop 8):=by unfold ZhN;rw [ZuP l (by omega)];rfl
  rw [e,Zdx,Zxk _ (by rw [List.length_take];omega),Zhu k _ (by rw [List.length_drop];omega),List.take_append_drop]
theorem Zsi (l:List Bool):Zdx (ZhN l)=ZiC l:=by
 have:ZhN l=ZhN (ZiC l):=by unfold ZhN;rw [(Zjv l).2]
 rw [this]
 exact Zhu _ _ (Zgu l)
def ZoZ:List Bool:=[true,false,false,false,false,false,false,false]
def ZfZ (n:Nat):List Bool:=ZoZ++ZbT n 16++ZbT (65535-n) 16
def Zhy (s:Str):Str:=ZhN (ZfZ s.length)++s
theorem ZsD (s:Str) (hs:s.length≤300):ZdN s=some (Zhy s):=by
 have e1:Zff 1 3 0 []=some (3,[1]):=by kernel_rfl
 have e2:Zkc 3 [1]=some (8,ZfJ ZoZ):=by kernel_rfl
 have e3:=ZeY s.length 16 (by omega) (by omega) ZoZ (by simp [ZoZ])
 have e4:=ZeY (65535-s.length) 16 (by omega) (by omega) (ZoZ++ZbT s.length 16) (by simp [ZoZ,Zaj])
 rw [show (ZoZ.length:Int)=8 from rfl,show ((16:Nat):Int)=16 from rfl] at e3
 rw [show ((16:Nat):Int)=16 from rfl] at e4
 unfold ZdN
 rw [decide_eq_false (by omega),cond_false,e1]
 simp only [Zaa]
 rw [e2]
 simp only [Zaa]
 rw [e3]
 simp only [Zaa]
 rw [Zaf (by omega) (by omega),show (65535:Int)-(s.length:Int)=((65535-s.length:Nat):Int) by omega,e4]
 simp only [Zaa]
 rw [Zad]
 ·rfl
 ·have:=ZhM (ZfZ s.length)
  unfold ZhN ZfZ at this
  rw [this];simp [ZoZ,Zaj];omega
theorem Zu8 (s:Str) (hs:s.length≤300):ZeI s=some (Zhy s):=by
 have e1:Zev 1 1 0 0 []=some (1,1,[]):=by kernel_rfl
 have e2:Zev 0 2 1 1 []=some (1,3,[]):=by kernel_rfl
 have e3:ZdU 1 3 []=some (0,0,oT ZoZ):=by kernel_rfl
 have e4:=ZeF s.length 16 (by omega) (by omega) ZoZ (by simp [ZoZ])
 have e5:=ZeF (65535-s.length) 16 (by omega) (by omega) (ZoZ++ZbT s.length 16) (by simp [ZoZ,Zaj])
 rw [show (oL ZoZ:Int)=0 by kernel_rfl,show ((ZoZ.length%8:Nat):Int)=0 from rfl,show ((16:Nat):Int)=16 from rfl] at e4
 rw [show ((16:Nat):Int)=16 from rfl] at e5
 unfold ZeI
 rw [e1]
 simp only [Zaa]
 rw [e2]
 simp only [Zaa]
 rw [e3]
 simp only [Zaa]
 rw [e4]
 simp only [Zaa]
 rw [Zaf (by omega) (by omega),show (65535:Int)-(s.length:Int)=((65535-s.length:Nat):Int) by omega,e5]
 simp only [Zaa]
 have hl:(ZfZ s.length).length=40:=by simp [ZfZ,ZoZ,Zaj]
 have hq:=ZhM (ZfZ s.length)
 unfold ZhN at hq
 have hp:oT (ZfZ s.length)=ZfJ (ZfZ s.length):=by
  have hf:ZiC (ZfZ s.length)=ZfZ s.length:=by unfold ZiC;rw [hl,show (8-40%8)%8=0 from rfl,List.replicate_zero,List.append_nil]
  rw [(Zjv _).1,hf]
 rw [show oT (ZoZ++ZbT s.length 16++ZbT (65535-s.length) 16)=ZfJ (ZfZ s.length) from hp,Zad (by rw [hq,hl];omega)]
 rfl
theorem Zpx (s:Str):(Zhy s).length=5+s.length:=by
 simp only [Zhy,List.length_append,ZhM]
 simp [ZfZ,ZoZ,Zaj]
theorem Zo7:Zby Znb=32768:=by kernel_rfl
theorem Zo8:Zby ZnY=32768:=by kernel_rfl
theorem Zp6:∀n∈Znb,n≤15:=by
 intro n hn
 simp only [Znb,List.mem_append,List.mem_replicate] at hn
 omega
theorem Zta:∀n∈ZnY,n≤15:=by
 intro n hn
 simp only [ZnY,List.mem_replicate] at hn
 omega
theorem Zdd:Znb.length=288:=by kernel_rfl
theorem Zhr:ZnY.length=32:=by kernel_rfl
theorem Zw1 (t:Tk) (h:t.Ok):t.In Znb ZnY:=by
 cases t with
 | lit c=>show c<Znb.length;rw [Zdd];have:c<256:=h;omega
 | far l k=>
  obtain ⟨h1,h2,h3,h4⟩:=h
  have a:=(ZfF l h1 h2).2.2.1
  have b:=(Zgk k h3 h4).2.2.1
  show 257+Zb2 ZaD l<Znb.length∧Zb2 ZaV k<ZnY.length
  rw [Zdd,Zhr];omega
theorem ZgD (s:Str):∀t∈ZiE s,t.Ok:=ZlK s _ 0 (Nat.zero_le _)
theorem ZfW (s:Str):(ZiE s).length≤s.length:=Zk5 s _ 0
def Zw0 (s:Str):List Bool:=ZbT 1 1++ZbT 1 2++ZfX Znb ZnY (ZiE s)
def ZhC (s:Str):Str:=ZhN (Zw0 s)
theorem Zs9 (s:Str) (hs:s.length≤300):ZdT s=some (ZhC s):=by
 have hl:=ZfW s
 have e1:=ZeY 1 1 (by omega) (by omega) [] (by simp)
 have e2:=ZeY 1 2 (by omega) (by omega) ([]++ZbT 1 1) (by simp [Zaj])
 have e3:=Zob Znb ZnY (by rw [Zo7];omega) (by rw [Zo8];omega) Zp6 Zta (by rw [Zdd];omega) (by rw [Zhr];omega) (by rw [Zdd];omega) (ZiE s) (fun t h=>⟨ZgD s t h,Zw1 t (ZgD s t h)⟩) (by omega) ([]++ZbT 1 1++ZbT 1 2) (by simp [Zaj])
 rw [show ((1:Nat):Int)=1 from rfl,show (([]:List Bool).length:Int)=0 from rfl,show ZfJ []=[] by kernel_rfl] at e1
 rw [show ((1:Nat):Int)=1 from rfl,show ((2:Nat):Int)=2 from rfl] at e2
 unfold ZdT
 rw [decide_eq_false (by omega),cond_false,e1]
 simp only [Zaa]
 rw [e2]
 simp only [Zaa]
 rw [Zlq,Zmd s hs]
 simp only [Zaa]
 rw [e3]
 rfl
theorem Zva (s:Str) (hs:s.length≤300):ZeJ s=some (ZhC s):=by
 have hl:=ZfW s
 have e1:=ZeF 1 1 (by omega) (by omega) [] (by simp)
 have e2:=ZeF 1 2 (by omega) (by omega) ([]++ZbT 1 1) (by simp [Zaj])
 have e3:=Zoz Znb ZnY (by rw [Zo7];omega) (by rw [Zo8];omega) Zp6 Zta (by rw [Zdd];omega) (by rw [Zhr];omega) (by rw [Zdd];omega) (ZiE s) (fun t h=>⟨ZgD s t h,Zw1 t (ZgD s t h)⟩) (by omega) ([]++ZbT 1 1++ZbT 1 2) (by simp [Zaj])
 have hb:=Zgz Znb ZnY Zp6 Zta (ZiE s) (fun t h=>⟨ZgD s t h,Zw1 t (ZgD s t h)⟩)
 have h2:=ZcB Znb 256 (by rw [Zdd];omega) Zp6
 have e4:=Zq0 ([]++ZbT 1 1++ZbT 1 2++ZfX Znb ZnY (ZiE s)) (by simp only [ZgR,List.length_append,Zaj,List.length_nil];omega)
 rw [show ((1:Nat):Int)=1 from rfl,show (oL []:Int)=0 by kernel_rfl,show ((([]:List Bool).length%8:Nat):Int)=0 from rfl,show oT []=[] by kernel_rfl] at e1
 rw [show ((1:Nat):Int)=1 from rfl,show ((2:Nat):Int)=2 from rfl] at e2
 unfold ZeJ
 rw [e1]
 simp only [Zaa]
 rw [e2]
 simp only [Zaa]
 rw [ZoP,ZoQ,ZmQ s hs]
 simp only [Zaa]
 rw [e3]
 simp only [Zaa]
 rw [e4]
 rfl
end Ev
end
section
namespace Ev
open Go
abbrev HT:=Nat×Nat×List Nat
def Zfz (out:List Nat) (S:List Nat):List Nat:=(List.range out.length).map fun i=>out.getD i 0+S.count i
theorem Zaz (out S:List Nat):(Zfz out S).length=out.length:=by simp [Zfz]
theorem ZcX (out S:List Nat) (i:Nat) (h:i<out.length):(Zfz out S).getD i 0=out.getD i 0+S.count i:=by
 rw [Zal (by rw [Zaz];exact h)]
 simp [Zfz]
theorem Zxm (out:List Nat) {S S':List Nat} (h:S.Perm S'):Zfz out S=Zfz out S':=by
 unfold Zfz
 exact List.map_congr_left fun i _=>by rw [h.count_eq]
theorem ZeN (out:List Nat):Zfz out []=out:=by
 apply List.ext_getElem
 ·exact Zaz _ _
 ·intro i h1 h2
  have:=ZcX out [] i h2
  rw [Zal h1,Zal h2] at this
  simpa using this
theorem Zj1 (out S:List Nat) (s:Nat) (h:s<out.length):Zfz out (S++[s])=(Zfz out S).set s ((Zfz out S).getD s 0+1):=by
 apply List.ext_getElem
 ·simp [Zaz]
 ·intro i h1 h2
  rw [Zaz] at h1
  have e1:=ZcX out (S++[s]) i h1
  have e2:=ZcX out S i h1
  rw [Zal (by rw [Zaz];exact h1)] at e1 e2
  have e3:=ZcX out S s h
  rw [e1,List.getElem_set,e2,List.count_append]
  by_cases c:s=i
  ·subst c;rw [if_pos rfl,e3];simp;omega
  ·rw [if_neg c];simp [List.count_cons,c]
def Zkh (out:List Nat) (S:List Nat):Nat:=(S.map fun s=>2^(15-out.getD s 0)).sum
def ZjU:Nat→Nat
 | 0=>0
 | 1=>1
 | n+2=>ZjU n+ZjU (n+1)
theorem Zzy (n:Nat):ZjU n≤ZjU (n+1):=by
 cases n with
 | zero=>decide
 | succ n=>show ZjU (n+1)≤ZjU n+ZjU (n+1);omega
theorem Znc {a b:Nat} (h:a≤b):ZjU a≤ZjU b:=by
 induction h with
 | refl=>exact Nat.le_refl _
 | step _ ih=>exact Nat.le_trans ih (Zzy _)
theorem Zp9 (n:Nat):1≤ZjU (n+1):=Znc (a:=1) (by omega)
theorem ZjT {d c:Nat} (h:ZjU (d+2)≤c) (hc:c≤400):d≤12:=by
 rcases Nat.lt_or_ge 12 d with h13 | h13
 ·have:ZjU 15≤ZjU (d+2):=Znc (by omega)
  have:ZjU 15=610:=by decide
  omega
 ·exact h13
structure TOk (out:List Nat) (T:Nat) (e:HT):Prop where
 fin:e.2.1∈e.2.2
 fle:∀s∈e.2.2,e.2.1≤s
 lt:∀s∈e.2.2,s<out.length
 kr:Zkh out e.2.2=32768
 dep:∃d,(∀s∈e.2.2,out.getD s 0≤d)∧ZjU (d+2)≤e.1∧(1≤d→ZjU (d+1)≤T)
 top:T≤e.1
structure Zsv (out:List Nat) (l:List HT) (T:Nat) (U:List Nat) (tot:Nat):Prop where
 all:∀e∈l,TOk out T e
 perm:(l.flatMap fun e=>e.2.2).Perm U
 sum:(l.map fun e=>e.1).sum=tot
theorem Ztt {α:Type} {l l':List α} (f:α→Nat) (h:l.Perm l'):(l.map f).sum=(l'.map f).sum:=by
 induction h with
 | nil=>rfl
 | cons x _ ih=>simp [ih]
 | swap x y l=>simp only [List.map_cons,List.sum_cons];omega
 | trans _ _ a b=>exact a.trans b
theorem ZwZ {α β:Type} {l l':List α} (f:α→List β) (h:l.Perm l'):(l.flatMap f).Perm (l'.flatMap f):=by
 induction h with
 | nil=>exact .refl _
 | cons x _ ih=>simpa using List.Perm.append_left _ ih
 | swap x y l=>
  simp only [List.flatMap_cons,←List.append_assoc]
  exact List.Perm.append_right _ List.perm_append_comm
 | trans _ _ a b=>exact a.trans b
theorem Zsv.of_perm {out:List Nat} {l l':List HT} {T:Nat} {U:List Nat} {tot:Nat} (h:Zsv out l T U tot) (p:l.Perm l'):Zsv out l' T U tot:=
 ⟨fun e he=>h.all e (p.mem_iff.2 he),(ZwZ _ p).symm.trans h.perm,(Ztt _ p).symm.trans h.sum⟩
theorem ZvQ (out S:List Nat) (h:∀s∈S,s<out.length∧out.getD s 0≤14) (out':List Nat) (h':∀s∈S,out'.getD s 0=out.getD s 0+1):2*Zkh out' S=Zkh out S:=by
 induction S with
 | nil=>rfl
 | cons s S ih=>
  have:=ih (fun x hx=>h x (List.mem_cons_of_mem _ hx)) (fun x hx=>h' x (List.mem_cons_of_mem _ hx))
  have h1:=h s (List.mem_cons_self ..)
  have h2:=h' s (List.mem_cons_self ..)
  simp only [Zkh,List.map_cons,List.sum_cons] at this ⊢
  rw [h2,Nat.mul_add,this]
  congr 1
  rw [show 15-out.getD s 0=(15-(out.getD s 0+1))+1 by omega,Nat.pow_succ,Nat.mul_comm]
theorem ZvP (out out' S:List Nat) (h':∀s∈S,out'.getD s 0=out.getD s 0):Zkh out' S=Zkh out S:=by
 unfold Zkh
 congr 1
 exact List.map_congr_left fun s hs=>by rw [h' s hs]
theorem ZiY (out a b:List Nat):Zkh out (a++b)=Zkh out a+Zkh out b:=by simp [Zkh]
def ZjI (a b:HT):HT:=(a.1+b.1,(if b.2.1<a.2.1 then b.2.1 else a.2.1),a.2.2++b.2.2)
theorem Zsv.step {out:List Nat} {a b:HT} {r:List HT} {T:Nat} {U:List Nat} {tot:Nat} (h:Zsv out (a::b::r) T U tot) (hU:U.Nodup) (htot:tot≤400) (hab:a.1≤b.1) (hr:∀e∈r,b.1≤e.1) :
  Zsv (Zfz out (a.2.2++b.2.2)) (ZjI a b::r) b.1 U tot:=by
 have ha:=h.all a (by simp)
 have hb:=h.all b (by simp)
 have hsum:=h.sum
 simp only [List.map_cons,List.sum_cons] at hsum
 have hp:=h.perm
 simp only [List.flatMap_cons] at hp
 have hnd:=(hp.nodup_iff).2 hU
 rw [←List.append_assoc] at hnd
 obtain ⟨da,a1,a2,a3⟩:=ha.dep
 obtain ⟨db,b1,b2,b3⟩:=hb.dep
 have hda:=ZjT a2 (by omega)
 have hdb:=ZjT b2 (by omega)
 have hlt:∀s∈a.2.2++b.2.2,s<out.length:=fun s hs=>(List.mem_append.1 hs).elim (ha.lt s) (hb.lt s)
 have hone:∀s∈a.2.2++b.2.2,(Zfz out (a.2.2++b.2.2)).getD s 0=out.getD s 0+1:=fun s hs=>by
  rw [ZcX out _ s (hlt s hs)]
  have:=(List.nodup_append.1 hnd).1
  rw [this.count,if_pos hs]
 have hother:∀e∈r,∀s∈e.2.2,(Zfz out (a.2.2++b.2.2)).getD s 0=out.getD s 0:=fun e he s hs=>by
  rw [ZcX out _ s ((h.all e (by simp [he])).lt s hs),List.count_eq_zero.2 (fun hm=>(List.nodup_append.1 hnd).2.2 s hm s (List.mem_flatMap.2 ⟨e,he,hs⟩) rfl)];rfl
 refine ⟨fun e he=>?_,?_,?_⟩
 ·rcases List.mem_cons.1 he with rfl | he
  ·have pa:=Zp9 (da+1)
   have pb:=Zp9 (db+1)
   refine ⟨?_,fun s hs=>?_,fun s hs=>by rw [Zaz];exact hlt s hs,?_,⟨max da db+1,fun s hs=>?_,?_,fun _=>?_⟩,Nat.le_add_left _ _⟩
   ·show (if b.2.1<a.2.1 then b.2.1 else a.2.1)∈a.2.2++b.2.2
    split
    ·exact List.mem_append_right _ hb.fin
    ·exact List.mem_append_left _ ha.fin
   ·show (if b.2.1<a.2.1 then b.2.1 else a.2.1)≤s
    rcases List.mem_append.1 hs with hs | hs
    ·have:=ha.fle s hs;split<;>omega
    ·have:=hb.fle s hs;split<;>omega
   ·have h2:=ZvQ out (a.2.2++b.2.2) (fun s hs=>⟨hlt s hs,by
     rcases List.mem_append.1 hs with hs | hs
     ·have:=a1 s hs;omega
     ·have:=b1 s hs;omega⟩) _ hone
    rw [ZiY out,ha.kr,hb.kr] at h2
    show Zkh _ (a.2.2++b.2.2)=32768
    omega
   ·rw [hone s hs]
    rcases List.mem_append.1 hs with hs | hs
    ·have:=a1 s hs;omega
    ·have:=b1 s hs;omega
   ·show ZjU (max da db+1+2)≤a.1+b.1
    have e:ZjU (max da db+1+2)=ZjU (max da db+1)+ZjU (max da db+2):=rfl
    rw [e]
    rcases Nat.le_total db da with hd | hd
    ·rw [Nat.max_eq_left hd]
     have:ZjU (da+1)≤b.1:=by
      rcases Nat.eq_zero_or_pos da with h0 | h0
      ·subst h0;exact Nat.le_trans (Zp9 0 |> fun _=>(by simpa [ZjU] using pb)) b2
      ·exact Nat.le_trans (a3 h0) hb.top
     omega
    ·rw [Nat.max_eq_right hd]
     have:ZjU (db+1)≤a.1:=by
      rcases Nat.eq_zero_or_pos db with h0 | h0
      ·subst h0;exact Nat.le_trans (by simpa [ZjU] using pa) a2
      ·exact Nat.le_trans (b3 h0) ha.top
     omega
   ·show ZjU (max da db+1+1)≤b.1
    rcases Nat.le_total db da with hd | hd
    ·rw [Nat.max_eq_left hd];exact Nat.le_trans a2 hab
    ·rw [Nat.max_eq_right hd];exact b2
  ·have he':=h.all e (by simp [he])
   obtain ⟨d,d1,d2,d3⟩:=he'.dep
   exact ⟨he'.fin,he'.fle,fun s hs=>by rw [Zaz];exact he'.lt s hs,(ZvP _ _ _ (hother e he)).trans he'.kr,
    ⟨d,fun s hs=>by rw [hother e he s hs];exact d1 s hs,d2,fun h1=>Nat.le_trans (d3 h1) hb.top⟩,hr e he⟩
 ·simp only [List.flatMap_cons,ZjI,List.append_assoc];exact hp
 ·simp only [List.map_cons,List.sum_cons,ZjI];omega
end Ev
end
section
namespace Ev
open Go
def ltH (x y:HT):Bool:=decide (x.1<y.1)||(decide (x.1=y.1)&&decide (x.2.1<y.2.1))
def HT.d:HT:=(0,0,[])
def ZhY (l:List HT):Nat→Nat→Nat→Nat
 | 0,a,_=>a
 | f+1,a,i=>ZhY l f (if ltH (l.getD i HT.d) (l.getD a HT.d) then i else a) (i+1)
def lst (l:List HT):Nat:=ZhY l (l.length-1) 0 1
def less (l:List HT) (k:Nat):List HT:=l.take k++l.drop (k+1)
theorem Zi2 (l:List HT):∀(f a i:Nat),i+f=l.length→a<l.length→(∀j,j<i→(l.getD a HT.d).1≤(l.getD j HT.d).1)→
  ZhY l f a i<l.length∧∀j,j<l.length→(l.getD (ZhY l f a i) HT.d).1≤(l.getD j HT.d).1
 | 0,a,i,h,ha,hj=>⟨ha,fun j hl=>hj j (by omega)⟩
 | f+1,a,i,h,ha,hj=>by
  rw [ZhY]
  by_cases c:ltH (l.getD i HT.d) (l.getD a HT.d)=true
  ·rw [if_pos c]
   refine Zi2 l f i (i+1) (by omega) (by omega) fun j hl=>?_
   have:(l.getD i HT.d).1≤(l.getD a HT.d).1:=by
    simp only [ltH,Bool.or_eq_true,Bool.and_eq_true,decide_eq_true_eq] at c;omega
   by_cases e:j=i
   ·subst e;exact Nat.le_refl _
   ·have:=hj j (by omega);omega
  ·rw [if_neg c]
   refine Zi2 l f a (i+1) (by omega) ha fun j hl=>?_
   by_cases e:j=i
   ·subst e
    simp only [ltH,Bool.or_eq_true,Bool.and_eq_true,decide_eq_true_eq] at c;omega
   ·exact hj j (by omega)
theorem Zhm (l:List HT) (h:0<l.length):lst l<l.length∧∀e∈l,(l.getD (lst l) HT.d).1≤e.1:=by
 have:=Zi2 l (l.length-1) 0 1 (by omega) h (fun j hj=>by rw [show j=0 by omega];exact Nat.le_refl _)
 refine ⟨this.1,fun e he=>?_⟩
 obtain ⟨j,hj,rfl⟩:=List.getElem_of_mem he
 have h2:=this.2 j hj
 rw [Zal hj] at h2
 exact h2
theorem ZmI (l:List HT) (k:Nat) (h:k<l.length):l.Perm (l.getD k HT.d::less l k):=by
 have e:l=l.take k++(l.getD k HT.d::l.drop (k+1)):=by
  rw [Zal h,←List.drop_eq_getElem_cons h,List.take_append_drop]
 have p:=List.perm_middle (a:=l.getD k HT.d) (l₁:=l.take k) (l₂:=l.drop (k+1))
 have:l.Perm (l.take k++(l.getD k HT.d::l.drop (k+1))):=by rw [←e]
 exact this.trans p
theorem Zho (l:List HT) (k:Nat) (h:k<l.length):(less l k).length+1=l.length:=by
 have:=(ZmI l k h).length_eq
 simpa using this.symm
def ZhA (l:List HT):HT:=l.getD (lst l) HT.d
def Zhg (l:List HT):HT:=ZhA (less l (lst l))
def Zjs (l:List HT):List HT:=less (less l (lst l)) (lst (less l (lst l)))
def Zg5:Nat→List Nat→List HT→List Nat
 | 0,out,_=>out
 | n+1,out,l=>if 1<l.length then Zg5 n (Zfz out ((ZhA l).2.2++(Zhg l).2.2)) (Zjs l++[ZjI (ZhA l) (Zhg l)]) else out
theorem ZxU (l:List HT) (h:1<l.length):l.Perm (ZhA l::Zhg l::Zjs l)∧(ZhA l).1≤(Zhg l).1∧(∀e∈Zjs l,(Zhg l).1≤e.1)∧(Zjs l).length+2=l.length:=by
 obtain ⟨h1,h2⟩:=Zhm l (by omega)
 have p1:=ZmI l (lst l) h1
 have n1:=Zho l (lst l) h1
 obtain ⟨h3,h4⟩:=Zhm (less l (lst l)) (by omega)
 have p2:=ZmI (less l (lst l)) _ h3
 have n2:=Zho (less l (lst l)) _ h3
 have pp:l.Perm (ZhA l::Zhg l::Zjs l):=p1.trans (p2.cons _)
 refine ⟨pp,h2 _ (pp.mem_iff.2 (by simp)),fun e he=>h4 e (p2.mem_iff.2 (List.mem_cons_of_mem _ he)),?_⟩
 unfold Zjs;omega
theorem Zsv.next {out:List Nat} {l:List HT} {T:Nat} {U:List Nat} {tot:Nat} (h:Zsv out l T U tot) (hU:U.Nodup) (htot:tot≤400) (hl:1<l.length) :
  Zsv (Zfz out ((ZhA l).2.2++(Zhg l).2.2)) (Zjs l++[ZjI (ZhA l) (Zhg l)]) (Zhg l).1 U tot∧(Zjs l++[ZjI (ZhA l) (Zhg l)]).length+1=l.length:=by
 obtain ⟨p,h1,h2,h3⟩:=ZxU l hl
 refine ⟨((h.of_perm p).step hU htot h1 h2).of_perm ?_,by simp;omega⟩
 exact (List.perm_append_comm (l₁:=[ZjI (ZhA l) (Zhg l)]) (l₂:=Zjs l))
theorem ZmZ {U:List Nat} {tot:Nat} (hU:U.Nodup) (htot:tot≤400):∀(n:Nat) (out:List Nat) (l:List HT) (T:Nat),l.length=n+1→Zsv out l T U tot→
  (Zg5 n out l).length=out.length∧(∀i,i<out.length→i∉U→(Zg5 n out l).getD i 0=out.getD i 0)∧∃e T',Zsv (Zg5 n out l) [e] T' U tot
 | 0,out,l,T,hl,h=>by
  obtain ⟨e,rfl⟩:=List.length_eq_one_iff.1 hl
  exact ⟨rfl,fun _ _ _=>rfl,e,T,h⟩
 | n+1,out,l,T,hl,h=>by
  obtain ⟨h1,h2⟩:=h.next hU htot (by omega)
  have ih:=ZmZ hU htot n _ _ _ (by omega) h1
  rw [Zg5,if_pos (by omega)]
  refine ⟨ih.1.trans (Zaz _ _),fun i hi hn=>?_,ih.2.2⟩
  rw [ih.2.1 i (by rw [Zaz];exact hi) hn,ZcX _ _ _ hi,List.count_eq_zero.2,Nat.add_zero]
  intro hm
  apply hn
  obtain ⟨p,_⟩:=ZxU l (by omega)
  refine h.perm.mem_iff.1 (List.mem_flatMap.2 ?_)
  rcases List.mem_append.1 hm with hm | hm
  ·exact ⟨_,p.mem_iff.2 (by simp),hm⟩
  ·exact ⟨_,p.mem_iff.2 (by simp),hm⟩
def Zcm (ns:List Nat):List Nat:=(List.range ns.length).filter fun i=>decide (0<ns.getD i 0)
theorem Zkd (n:Nat) (r:List Nat):Zcm (n::r)=(if 0<n then [0] else [])++(Zcm r).map (· + 1):=by
 unfold Zcm
 rw [List.length_cons,List.range_succ_eq_map,List.filter_cons,List.filter_map]
 by_cases h:0<n
 ·rw [if_pos (by simpa using h),if_pos h];rfl
 ·rw [if_neg (by simpa using h),if_neg h];rfl
theorem ZgQ:∀ns,Zfg ns=(Zcm ns).length
 | []=>rfl
 | n::r=>by
  rw [Zkd,Zfg,ZgQ r]
  by_cases h:0<n
  ·rw [if_pos h,if_pos h];simp;omega
  ·rw [if_neg h,if_neg h];simp
theorem Zi7:∀ns,Zby ns=Zkh ns (Zcm ns)
 | []=>rfl
 | n::r=>by
  have e:Zkh (n::r) ((Zcm r).map (· + 1))=Zkh r (Zcm r):=by
   unfold Zkh;rw [List.map_map];rfl
  rw [Zkd,Zby,Zi7 r,ZiY,e]
  by_cases h:0<n
  ·rw [if_pos h,if_pos h];simp [Zkh]
  ·rw [if_neg h,if_neg h];simp [Zkh]
theorem Zmg:∀ns:List Nat,((Zcm ns).map fun i=>ns.getD i 0).sum=ns.sum
 | []=>rfl
 | n::r=>by
  have e:(((Zcm r).map (· + 1)).map fun i=>(n::r).getD i 0)=(Zcm r).map fun i=>r.getD i 0:=by rw [List.map_map];rfl
  rw [Zkd,List.map_append,e,List.sum_append,Zmg r,List.sum_cons]
  by_cases h:0<n
  ·rw [if_pos h];simp
  ·rw [if_neg h];simp;omega
theorem ZcS (ns:List Nat) (i:Nat):i∈Zcm ns↔i<ns.length∧0<ns.getD i 0:=by
 simp [Zcm]
theorem ZiW (ns:List Nat):(Zcm ns).Nodup:=List.Pairwise.filter _ List.nodup_range
def Zgq (cs:List Nat):List HT:=(Zcm cs).map fun i=>(cs.getD i 0,i,[i])
def ZdW (cs:List Nat):List Nat:=
 if (Zcm cs).length=1 then (List.replicate cs.length 0).set ((Zcm cs).getD 0 0) 1 else Zg5 ((Zcm cs).length-1) (List.replicate cs.length 0) (Zgq cs)
theorem ZdI (n i:Nat):(List.replicate n 0).getD i 0=0:=by
 by_cases h:i<n
 ·rw [Zal (by simpa using h)];simp
 ·simp [List.getD,Nat.le_of_not_lt h]
theorem ZkA (cs:List Nat):Zsv (List.replicate cs.length 0) (Zgq cs) 0 (Zcm cs) cs.sum:=by
 refine ⟨fun e he=>?_,?_,?_⟩
 ·obtain ⟨i,hi,rfl⟩:=List.mem_map.1 he
  obtain ⟨h1,h2⟩:=(ZcS cs i).1 hi
  refine ⟨by simp,fun s hs=>?_,fun s hs=>?_,?_,⟨0,fun s hs=>?_,?_,fun h=>?_⟩,Nat.zero_le _⟩
  ·have:s=i:=by simpa using hs
   subst this;exact Nat.le_refl _
  ·have:s=i:=by simpa using hs
   subst this;simpa using h1
  ·simp only [Zkh,List.map_cons,List.map_nil,List.sum_cons,List.sum_nil,ZdI];rfl
  ·rw [ZdI];exact Nat.le_refl _
  ·show 1≤cs.getD i 0;omega
  ·omega
 ·unfold Zgq
  rw [List.flatMap_map]
  have:∀l:List Nat,(l.flatMap fun i=>[i])=l:=fun l=>by induction l<;>simp_all
  rw [this]
 ·unfold Zgq
  rw [List.map_map]
  exact Zmg cs
structure LOk (cs out:List Nat) (d:Nat):Prop where
 len:out.length=cs.length
 pos:∀i,0<cs.getD i 0↔0<out.getD i 0
 le:∀n∈out,n≤d
 ok:Zby out=32768∨Zfg out=1∧Zby out=16384
theorem ZiX (cs out:List Nat) (h:out.length=cs.length) (hp:∀i,0<cs.getD i 0↔0<out.getD i 0):Zcm out=Zcm cs:=by
 unfold Zcm
 rw [h]
 exact List.filter_congr fun i _=>by simp only [decide_eq_decide];exact (hp i).symm
theorem Ztv (out:List Nat):∀S:List Nat,S≠[]→0<Zkh out S
 | [],h=>absurd rfl h
 | s::S,_=>by
  have:=Nat.two_pow_pos (15-out.getD s 0)
  simp only [Zkh,List.map_cons,List.sum_cons];omega
theorem ZlU (cs:List Nat) (h0:Zcm cs≠[]) (ht:cs.sum≤400):∃d,d≤12∧LOk cs (ZdW cs) d∧(d≤1∨ZjU (d+2)≤cs.sum):=by
 have hU:=ZiW cs
 by_cases h1:(Zcm cs).length=1
 ·obtain ⟨k,hk⟩:=List.length_eq_one_iff.1 h1
  have hm:k<cs.length∧0<cs.getD k 0:=(ZcS cs k).1 (by rw [hk];simp)
  have e:ZdW cs=(List.replicate cs.length 0).set k 1:=by unfold ZdW;rw [if_pos h1,hk];rfl
  have hlen:(ZdW cs).length=cs.length:=by rw [e];simp
  have hget:∀i,(ZdW cs).getD i 0=if i=k then 1 else 0:=fun i=>by
   rw [e]
   by_cases hi:i<cs.length
   ·rw [Zal (by simpa using hi),List.getElem_set]
    by_cases c:k=i
    ·rw [if_pos c,if_pos c.symm]
    ·rw [if_neg c,if_neg (fun x=>c x.symm)];simp
   ·rw [if_neg (by omega)]
    simp [List.getD,Nat.le_of_not_lt hi]
  have hpos:∀i,0<cs.getD i 0↔0<(ZdW cs).getD i 0:=fun i=>by
   rw [hget i]
   constructor
   ·intro h
    have hi:i<cs.length:=by
     rcases Nat.lt_or_ge i cs.length with h' | h'
     ·exact h'
     ·rw [show cs.getD i 0=0 by simp [List.getD,h']] at h;omega
    have:i∈Zcm cs:=(ZcS cs i).2 ⟨hi,h⟩
    rw [hk] at this
    rw [if_pos (by simpa using this)];omega
   ·intro h
    by_cases c:i=k
    ·rw [c];exact hm.2
    ·rw [if_neg c] at h;omega
  have hc:=ZiX cs (ZdW cs) hlen hpos
  refine ⟨1,by omega,⟨hlen,hpos,fun n hn=>?_,.inr ⟨by rw [ZgQ,hc];exact h1,?_⟩⟩,.inl (Nat.le_refl _)⟩
  ·obtain ⟨j,hj,rfl⟩:=List.getElem_of_mem hn
   have:=hget j
   rw [Zal hj] at this
   rw [this];split<;>omega
  ·rw [Zi7,hc,hk]
   simp only [Zkh,List.map_cons,List.map_nil,List.sum_cons,List.sum_nil,hget,if_true];rfl
 ·have hn:0<(Zcm cs).length:=List.length_pos_iff.2 h0
  have e:ZdW cs=Zg5 ((Zcm cs).length-1) (List.replicate cs.length 0) (Zgq cs):=by unfold ZdW;rw [if_neg h1]
  obtain ⟨l1,l2,t,T',hI⟩:=ZmZ hU ht ((Zcm cs).length-1) (List.replicate cs.length 0) (Zgq cs) 0 (by simp [Zgq];omega) (ZkA cs)
  rw [←e] at l1 l2 hI
  rw [List.length_replicate] at l1 l2
  have tok:=hI.all t (by simp)
  obtain ⟨d,d1,d2,d3⟩:=tok.dep
  have hts:t.1=cs.sum:=by simpa using hI.sum
  have hpp:t.2.2.Perm (Zcm cs):=by simpa using hI.perm
  have hkr:Zkh (ZdW cs) (Zcm cs)=32768:=by
   have:=Ztt (fun s=>2^(15-(ZdW cs).getD s 0)) hpp
   unfold Zkh;rw [←this];exact tok.kr
  have hd:d≤12:=ZjT d2 (by omega)
  have hpos:∀i,0<cs.getD i 0↔0<(ZdW cs).getD i 0:=fun i=>by
   constructor
   ·intro h
    have hi:i<cs.length:=by
     rcases Nat.lt_or_ge i cs.length with h' | h'
     ·exact h'
     ·rw [show cs.getD i 0=0 by simp [List.getD,h']] at h;omega
    have hmem:i∈Zcm cs:=(ZcS cs i).2 ⟨hi,h⟩
    rcases Nat.eq_zero_or_pos ((ZdW cs).getD i 0) with hz | hz
    ·obtain ⟨a,b,hab⟩:=List.append_of_mem hmem
     rw [hab,ZiY] at hkr
     have ec:Zkh (ZdW cs) (i::b)=32768+Zkh (ZdW cs) b:=by simp only [Zkh,List.map_cons,List.sum_cons,hz]
     have ha:a=[]:=by
      rcases Classical.em (a=[]) with h' | h'
      ·exact h'
      ·have:=Ztv (ZdW cs) a h';omega
     have hb:b=[]:=by
      rcases Classical.em (b=[]) with h' | h'
      ·exact h'
      ·have:=Ztv (ZdW cs) b h';omega
     rw [hab,ha,hb] at h1
     exact absurd rfl h1
    ·exact hz
   ·intro h
    rcases Nat.lt_or_ge i cs.length with hi | hi
    ·rcases Classical.em (i∈Zcm cs) with hm | hm
     ·exact ((ZcS cs i).1 hm).2
     ·rw [l2 i hi hm,ZdI] at h;omega
    ·rw [show (ZdW cs).getD i 0=0 by simp [List.getD,l1,hi]] at h;omega
  have hc:=ZiX cs (ZdW cs) l1 hpos
  refine ⟨d,hd,⟨l1,hpos,fun n hn=>?_,.inl (by rw [Zi7,hc];exact hkr)⟩,.inr (by rw [←hts];exact d2)⟩
  obtain ⟨j,hj,rfl⟩:=List.getElem_of_mem hn
  rcases Classical.em (j∈Zcm cs) with hm | hm
  ·have:=d1 j (hpp.mem_iff.2 hm)
   rwa [Zal hj] at this
  ·have:=l2 j (by omega) hm
   rw [Zal hj,ZdI] at this
   omega
end Ev
end
