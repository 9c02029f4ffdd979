/- Plain laws about what the functions compute. Conditions: as stated. -/
import Derived.KernelRfl
import Derived.Test.YtadeffpcedlalaaGreatDoorBGP0
set_option linter.unusedVariables false
set_option linter.unusedSimpArgs false
section
namespace Ev
open Go
def Ret {α:Type} (x:Option α) (Q:α→Prop):Prop:=∃a,x=some a∧Q a
theorem Ret.pure {α:Type} {a:α} {Q:α→Prop} (h:Q a):Ret (some a) Q:=⟨a,rfl,h⟩
theorem Ret.of {α:Type} {x:Option α} {a:α} {Q:α→Prop} (e:x=some a) (h:Q a):Ret x Q:=⟨a,e,h⟩
theorem Ret.mono {α:Type} {x:Option α} {P Q:α→Prop} (h:Ret x P) (k:∀a,P a→Q a):Ret x Q:=by
 obtain ⟨a,e,q⟩:=h;exact ⟨a,e,k a q⟩
theorem Ret.bind {α β:Type} {x:Option α} {f:α→Option β} {P:α→Prop} {Q:β→Prop} (h:Ret x P) (k:∀a,P a→Ret (f a) Q):Ret (x.bind f) Q:=by
 obtain ⟨a,rfl,q⟩:=h;exact k a q
theorem Ret.need {α:Type} {b:Bool} {x:Option α} {Q:α→Prop} (h:b=true) (k:Ret x Q):Ret (Ev.need b x) Q:=by subst h;exact k
theorem Ret.cond {α:Type} {b:Bool} {x y:Option α} {Q:α→Prop} (h1:b=true→Ret x Q) (h0:b=false→Ret y Q):Ret (bif b then x else y) Q:=by
 cases b
 ·exact h0 rfl
 ·exact h1 rfl
theorem Ret.ite {α:Type} {p:Prop} [Decidable p] {x y:Option α} {Q:α→Prop} (h1:p→Ret x Q) (h0:¬p→Ret y Q):Ret (if p then x else y) Q:=by
 by_cases h:p
 ·rw [if_pos h];exact h1 h
 ·rw [if_neg h];exact h0 h
theorem Ret.map {α β:Type} {x:Option α} {f:α→β} {Q:β→Prop} (h:Ret x (fun a=>Q (f a))):Ret (x.map f) Q:=by
 obtain ⟨a,rfl,q⟩:=h;exact ⟨f a,rfl,q⟩
theorem Ret.loop {T σ:Type} {step:(T→Option σ)→T→Option σ} (Inv:T→Prop) (μ:T→Nat) (Q:T→σ→Prop)
  (h:∀again t,Inv t→(∀t',Inv t'→μ t'<μ t→Ret (again t') (Q t'))→Ret (step again t) (Q t)):∀n t,Inv t→μ t<n→Ret (ZaC step n t) (Q t)
 | 0,_,_,hn=>absurd hn (Nat.not_lt_zero _)
 | n+1,t,hi,hn=>h _ t hi fun t' hi' hm=>Ret.loop Inv μ Q h n t' hi' (by omega)
theorem Zan {α:Type} {p q:Prop} [Decidable p] [Decidable q] {x:Option α} (hp:p) (hq:q):need (decide p&&decide q) x=x:=Zab _ (by simp [hp,hq])
theorem Zam {α:Type} {p:Prop} [Decidable p] {x:Option α} (hp:p):need (decide p) x=x:=Zab _ (by simp [hp])
theorem Zak {α:Type} {p:Prop} [Decidable p] {x:Option α} {n:Nat} (hp:p) (hn:n≤1099511627776):need (decide p&&fits n) x=x:=Zab _ (by simp [hp,Ze2 hn])
theorem Zad {α:Type} {n:Nat} {x:Option α} (h:n≤1099511627776):need (fits n) x=x:=Zab _ (Ze2 h)
theorem Zas {α:Type} {a b:Int} {x:Option α} (h:a≠b):need (a != b) x=x:=Zab _ (by simp [h])
theorem ZaO {α:Type} {x:Option α}:need true x=x:=rfl
theorem Zbo {α:Type} (p:Prop) [Decidable p] (x y:α):(bif decide p then x else y)=if p then x else y:=by
 by_cases h:p<;>simp [h]
theorem ZdH {α β:Type} [BEq β] [LawfulBEq β] [DecidableEq β] (a b:β) (x y:α):(bif a==b then x else y)=if a=b then x else y:=by
 by_cases h:a=b
 ·simp [h]
 ·rw [if_neg h,beq_false_of_ne h];rfl
theorem ZdK {α β:Type} [BEq β] [LawfulBEq β] [DecidableEq β] (a b:β) (x y:α):(bif a != b then x else y)=if a=b then y else x:=by
 by_cases h:a=b
 ·simp [h]
 ·rw [if_neg h,bne,beq_false_of_ne h];rfl
theorem Zbx {α:Type} (b:Bool) (x y:α):(bif !b then x else y)=bif b then y else x:=by cases b<;>rfl
theorem Zat {α:Type} (p:Prop) [Decidable p] (x y:α):(bif !decide p then x else y)=if p then y else x:=by
 by_cases h:p<;>simp [h]
theorem Zaz {a b:Int} (h:0≤a):a.tmod b=a%b:=Int.tmod_eq_emod_of_nonneg h
theorem Zaw {a b:Int} (h:0≤a):a.tdiv b=a/b:=Int.tdiv_eq_ediv_of_nonneg h
theorem Zae {α β:Type} (a:α) (f:α→Option β):(some a).bind f=f a:=rfl
theorem Zal {α:Type} {l:List α} {i:Nat} {d:α} (h:i<l.length):l.getD i d=l[i]:=by simp [List.getD,h]
end Ev
end
section
namespace Ev
open Go
theorem ZgG {n:Int} (h1:-9223372036854775808≤n) (h2:n≤9223372036854775807):IntKind.i64.wrap n=n:=Zaf h1 h2
theorem ZxE (x y:Nat) (hx:x<4611686018427387904) (hy:y<4611686018427387904):Zk1 .i64 (x:Int) (y:Int)=((x^^^y:Nat):Int):=by
 have hz:x^^^y<2^62:=Nat.xor_lt_two_pow (by omega) (by omega)
 unfold Zk1
 have e:(BitVec.ofInt IntKind.i64.bits (x:Int)^^^BitVec.ofInt IntKind.i64.bits (y:Int)).toNat=x^^^y:=by
  simp only [BitVec.ofInt_natCast,BitVec.toNat_xor,BitVec.toNat_ofNat,show IntKind.i64.bits=64 from rfl]
  rw [Nat.mod_eq_of_lt (by omega),Nat.mod_eq_of_lt (by omega)]
 rw [e,ZgG (by omega) (by omega)]
theorem ZxD {x y:Int} (hx:0≤x) (hx2:x<4611686018427387904) (hy:0≤y) (hy2:y<4611686018427387904):0≤Zk1 .i64 x y:=by
 obtain ⟨a,rfl⟩:=Int.eq_ofNat_of_zero_le hx
 obtain ⟨b,rfl⟩:=Int.eq_ofNat_of_zero_le hy
 rw [ZxE a b (by omega) (by omega)];omega
def Zjt (b:List Int) (p:Int):Prop:=b.length≤2000∧(∀x,x∈b→0≤x∧x≤255)∧0≤p
theorem Zjt.up {b:List Int} {p q:Int} (h:Zjt b p) (hq:p≤q):Zjt b q:=⟨h.1,h.2.1,by have:=h.2.2;omega⟩
theorem Zme {b:List Int} (h:∀x,x∈b→0≤x∧x≤255) (i:Nat):0≤b.getD i 0∧b.getD i 0≤255:=by
 by_cases hi:i<b.length
 ·rw [Zal hi];exact h _ (List.getElem_mem hi)
 ·have:b.getD i 0=0:=by simp [List.getD,List.getElem?_eq_none (by omega:b.length≤i)]
  rw [this];omega
theorem ZoL (n:Int) {b:List Int} {p:Int} (h:Zjt b p) (hp:p≤1000000000) (hn:n≤1000000000) :
  Ret (pick n b p) fun r=>r.2.1=b∧r.2.2=p+1∧0≤r.1∧(r.1<n∨(r.1=0∧(n<1∨b=[]))):=by
 obtain ⟨h1,h2,h3⟩:=h
 unfold pick
 ((try simp (disch:=omega) only [Zan,Zam,Zak,Zad,Zas,ZaO,Zaf,Zaz,Zaw,Zae,Option.map_some,cond_true,cond_false,Int.sub_zero,Int.toNat_natCast]);(try simp only [Zbo,ZdH,ZdK,Zat,Zbx,if_true,if_false]))
 by_cases hn1:n<1
 ·simp only [if_pos hn1,Zae,cond_true]
  exact .pure ⟨rfl,rfl,by omega,.inr ⟨rfl,.inl hn1⟩⟩
 ·by_cases hb:b=[]
  ·subst hb
   simp only [if_neg hn1,Zae,List.length_nil,show (((0:Nat):Int)==0)=true from rfl,cond_true]
   exact .pure ⟨rfl,rfl,by omega,.inr ⟨rfl,.inr trivial⟩⟩
  ·have hl:0<b.length:=List.length_pos_iff.2 hb
   have e:((b.length:Int)==0)=false:=by simp;omega
   have hpp:p+1-1=p:=by omega
   simp only [if_neg hn1,Zae,e,cond_false,hpp]
   have hbl:(b.length:Int)≠0:=by omega
   have m1:0≤p%(b.length:Int):=Int.emod_nonneg _ hbl
   have m2:p%(b.length:Int)<b.length:=Int.emod_lt_of_pos _ (by omega)
   have m3:0≤(p*7+3)%(b.length:Int):=Int.emod_nonneg _ hbl
   have m4:(p*7+3)%(b.length:Int)<b.length:=Int.emod_lt_of_pos _ (by omega)
   have m5:0≤p/(b.length:Int):=Int.ediv_nonneg h3 (by omega)
   have m6:p/(b.length:Int)≤p:=Int.ediv_le_self _ h3
   refine .ite (fun hlt=>?_) fun hlt=>?_
   ·have g:=Zme h2 p.toNat
    ((try simp (disch:=omega) only [Zan,Zam,Zak,Zad,Zas,ZaO,Zaf,Zaz,Zaw,Zae,Option.map_some,cond_true,cond_false,Int.sub_zero,Int.toNat_natCast]);(try simp only [Zbo,ZdH,ZdK,Zat,Zbx,if_true,if_false]))
    refine .pure ⟨rfl,rfl,Int.emod_nonneg _ (by omega),.inl (Int.emod_lt_of_pos _ (by omega))⟩
   ·((try simp (disch:=omega) only [Zan,Zam,Zak,Zad,Zas,ZaO,Zaf,Zaz,Zaw,Zae,Option.map_some,cond_true,cond_false,Int.sub_zero,Int.toNat_natCast]);(try simp only [Zbo,ZdH,ZdK,Zat,Zbx,if_true,if_false]))
    have g1:=Zme h2 (p%(b.length:Int)).toNat
    have g2:=Zme h2 ((p*7+3)%(b.length:Int)).toNat
    generalize b.getD (p%(b.length:Int)).toNat 0=x at *
    generalize b.getD ((p*7+3)%(b.length:Int)).toNat 0=y at *
    generalize p/(b.length:Int)=z at *
    ((try simp (disch:=omega) only [Zan,Zam,Zak,Zad,Zas,ZaO,Zaf,Zaz,Zaw,Zae,Option.map_some,cond_true,cond_false,Int.sub_zero,Int.toNat_natCast]);(try simp only [Zbo,ZdH,ZdK,Zat,Zbx,if_true,if_false]))
    have hx:=ZxD (x:=x*131+y*1117+p*29+z*53) (y:=(x*131+y*1117+p*29+z*53)/64) (by omega) (by omega) (by omega) (by omega)
    ((try simp (disch:=omega) only [Zan,Zam,Zak,Zad,Zas,ZaO,Zaf,Zaz,Zaw,Zae,Option.map_some,cond_true,cond_false,Int.sub_zero,Int.toNat_natCast]);(try simp only [Zbo,ZdH,ZdK,Zat,Zbx,if_true,if_false]))
    refine .pure ⟨rfl,rfl,Int.emod_nonneg _ (by omega),.inl (Int.emod_lt_of_pos _ (by omega))⟩
theorem Zw5 (xs:List Str) {b:List Int} {p:Int} (h:Zjt b p) (hp:p≤1000000000) (hx:0<xs.length) (hx2:xs.length≤1000000000) :
  Ret (Zh5 xs b p) fun r=>r.2.1=b∧r.2.2=p+1∧r.1∈xs:=by
 unfold Zh5
 refine .bind (ZoL _ h hp (by omega)) ?_
 rintro ⟨r,b',p'⟩ ⟨rfl,rfl,h0,h1⟩
 dsimp only at h0 h1 ⊢
 have hlt:r<xs.length:=by omega
 ((try simp (disch:=omega) only [Zan,Zam,Zak,Zad,Zas,ZaO,Zaf,Zaz,Zaw,Zae,Option.map_some,cond_true,cond_false,Int.sub_zero,Int.toNat_natCast]);(try simp only [Zbo,ZdH,ZdK,Zat,Zbx,if_true,if_false]))
 refine .pure ⟨rfl,rfl,?_⟩
 rw [Zal (by omega)]
 exact List.getElem_mem _
end Ev
end
section
namespace Ev
open Go
theorem ZjX (s:Str) (n:Int) (M:Nat) (h0:0≤n) (hM:n.toNat*s.length≤M) (hs:s.length≤M) (hM2:M≤1000000) (hn:n≤1000000000):Ret (Zdj s n) fun r=>r.length≤M:=by
 unfold Zdj Zdj.l0
 refine .bind (P:=fun (o:Str)=>o.length≤M) ?_ ?_
 ·refine Ret.loop (fun (t:Str×Int×Str)=>0≤t.2.1∧t.2.1≤1000000000∧t.2.2.length+t.2.1.toNat*t.1.length≤M∧(0<t.2.1→t.1.length≤M)) (fun t=>t.2.1.toNat) (fun _ (r:Str)=>r.length≤M) ?_ _ _ ?_ ?_
  ·rintro again ⟨s,n,out⟩ ⟨h1,h1',h2,h3⟩ ih
   dsimp only at h1 h1' h2 h3
   simp only [Zdj.l0.step]
   obtain ⟨k,rfl⟩:=Int.eq_ofNat_of_zero_le h1
   rw [Int.toNat_natCast] at h2
   by_cases hk:k=0
   ·subst hk
    ((try simp (disch:=omega) only [Zan,Zam,Zak,Zad,Zas,ZaO,Zaf,Zaz,Zaw,Zae,Option.map_some,cond_true,cond_false,Int.sub_zero,Int.toNat_natCast]);(try simp only [Zbo,ZdH,ZdK,Zat,Zbx,if_true,if_false]))
    rw [if_neg (by omega)]
    exact .pure (by omega)
   ·have hs:=h3 (by omega)
    have hd:k*s.length=(k%2)*s.length+2*((k/2)*s.length):=by
     conv=>lhs;rw [←Nat.mod_add_div k 2]
     rw [Nat.add_mul,Nat.mul_assoc]
    have hL:s.length≤k*s.length:=by
     calc s.length=1*s.length:=by omega
      _≤k*s.length:=Nat.mul_le_mul_right _ (by omega)
    have key:∀o:Str,o.length≤out.length+(k%2)*s.length→Ret (again (s++s,(k:Int)/2,o)) fun r=>r.length≤M:=fun o ho=>by
     have e:((k:Int)/2)=((k/2:Nat):Int):=by omega
     refine ih _ ⟨by dsimp only;omega,by dsimp only;omega,?_,?_⟩ ?_
     ·dsimp only
      rw [e,Int.toNat_natCast,List.length_append,Nat.mul_add]
      omega
     ·dsimp only
      intro hp
      rw [List.length_append]
      have:1≤k/2:=by omega
      have:s.length≤(k/2)*s.length:=by
       calc s.length=1*s.length:=by omega
        _≤(k/2)*s.length:=Nat.mul_le_mul_right _ (by omega)
      omega
     ·dsimp only;omega
    have m1:(k:Int).tmod 2=((k%2:Nat):Int):=by rw [Zaz (by omega)];omega
    rw [m1]
    ((try simp (disch:=omega) only [Zan,Zam,Zak,Zad,Zas,ZaO,Zaf,Zaz,Zaw,Zae,Option.map_some,cond_true,cond_false,Int.sub_zero,Int.toNat_natCast]);(try simp only [Zbo,ZdH,ZdK,Zat,Zbx,if_true,if_false]))
    rw [if_pos (by omega)]
    refine .ite (fun h=>?_) fun h=>?_
    ·have e1:k%2=1:=by omega
     rw [e1,Nat.one_mul] at hd
     ((try simp (disch:=omega) only [Zan,Zam,Zak,Zad,Zas,ZaO,Zaf,Zaz,Zaw,Zae,Option.map_some,cond_true,cond_false,Int.sub_zero,Int.toNat_natCast]);(try simp only [Zbo,ZdH,ZdK,Zat,Zbx,if_true,if_false]))
     exact key (out++s) (by rw [List.length_append,e1];omega)
    ·((try simp (disch:=omega) only [Zan,Zam,Zak,Zad,Zas,ZaO,Zaf,Zaz,Zaw,Zae,Option.map_some,cond_true,cond_false,Int.sub_zero,Int.toNat_natCast]);(try simp only [Zbo,ZdH,ZdK,Zat,Zbx,if_true,if_false]))
     exact key out (by omega)
  ·exact ⟨h0,hn,by dsimp only [List.length_nil];omega,fun _=>hs⟩
  ·dsimp only;omega
 ·intro a h;exact .pure h
def Zkk {α:Type} (b:List Int) (p c:Int) (Q:α→Prop) (r:α×List Int×Int):Prop:=r.2.1=b∧p≤r.2.2∧r.2.2≤p+c∧Q r.1
theorem Zdt (n:Int) {b:List Int} {p:Int} (h:Zjt b p) (hp:p≤1000000000) (hn0:1≤n) (hn:n≤1000000000):Ret (pick n b p) (Zkk b p 1 fun x=>0≤x∧x<n):=
 (ZoL n h hp hn).mono fun r ⟨h1,h2,h3,h4⟩=>⟨h1,by omega,by omega,h3,by omega⟩
theorem Zkx (xs:List Str) {b:List Int} {p:Int} (h:Zjt b p) (hp:p≤1000000000) (hx:0<xs.length) (hx2:xs.length≤1000000000):Ret (Zh5 xs b p) (Zkk b p 1 fun x=>x∈xs):=
 (Zw5 xs h hp hx hx2).mono fun r ⟨h1,h2,h3⟩=>⟨h1,by omega,by omega,h3⟩
theorem Zl1 {b:List Int} {p:Int} (h:Zjt b p) (hp:p≤900000000):Ret (ZbL b p) (Zkk b p 50 fun s=>s.length≤300):=by
 unfold ZbL
 refine .bind (Zdt 8 h (by omega) (by omega) (by omega)) ?_
 rintro ⟨r,b1,p1⟩ ⟨rfl,g1,g2,g3⟩
 dsimp only at g1 g2 g3 ⊢
 have h1:=h.up g1
 ((try simp (disch:=omega) only [Zan,Zam,Zak,Zad,Zas,ZaO,Zaf,Zaz,Zaw,Zae,Option.map_some,cond_true,cond_false,Int.sub_zero,Int.toNat_natCast]);(try simp only [Zbo,ZdH,ZdK,Zat,Zbx,if_true,if_false]))
 refine .ite (fun _=>.pure ⟨rfl,by dsimp only;omega,by dsimp only;omega,by simp⟩) fun _=>.ite (fun _=>?_) fun _=>.ite (fun _=>?_) fun _=>.ite (fun _=>?_) fun _=>?_
 ·refine .bind (Zkx _ h1 (by omega) (by decide) (by decide)) ?_
  rintro ⟨x,b2,p2⟩ ⟨rfl,k1,k2,k3⟩
  dsimp only at k1 k2 k3 ⊢
  refine .bind (Zdt 40 (h1.up k1) (by omega) (by omega) (by omega)) ?_
  rintro ⟨y,b3,p3⟩ ⟨rfl,l1,l2,l3⟩
  dsimp only at l1 l2 l3 ⊢
  have hx:x.length≤6:=by
   simp only [List.mem_cons,List.not_mem_nil,or_false] at k3
   rcases k3 with rfl | rfl | rfl | rfl<;>decide
  rw [Zaf (by omega) (by omega)]
  refine .bind (ZjX x (1+y) 300 (by omega) ?_ (by omega) (by omega) (by omega)) ?_
  ·calc (1+y).toNat*x.length≤40*6:=Nat.mul_le_mul (by omega) hx
    _≤300:=by decide
  ·intro a ha;exact .pure ⟨rfl,by dsimp only;omega,by dsimp only;omega,ha⟩
 ·refine .bind (Zdt 40 h1 (by omega) (by omega) (by omega)) ?_
  rintro ⟨x,b2,p2⟩ ⟨rfl,k1,k2,k3⟩
  dsimp only at k1 k2 k3 ⊢
  refine .bind (P:=fun (o:List Int×Int×List Int)=>o.1=b2∧p2≤o.2.1∧o.2.1≤p2+40∧o.2.2.length≤300) ?_ ?_
  ·unfold ZbL.l0
   refine Ret.loop (fun (t:Int×List Int×Int×List Int)=>t.2.1=b2∧0≤t.1∧t.1≤40∧p2≤t.2.2.1∧t.2.2.1+t.1≤p2+40∧t.2.2.2.length+t.1≤40) (fun t=>t.1.toNat) (fun _ (o:List Int×Int×List Int)=>o.1=b2∧p2≤o.2.1∧o.2.1≤p2+40∧o.2.2.length≤300) ?_ _ _ ?_ ?_
   ·rintro again ⟨n,b3,p3,out⟩ ⟨rfl,q1,q2,q3,q4,q5⟩ ih
    dsimp only at q1 q2 q3 q4 q5
    simp only [ZbL.l0.step]
    ((try simp (disch:=omega) only [Zan,Zam,Zak,Zad,Zas,ZaO,Zaf,Zaz,Zaw,Zae,Option.map_some,cond_true,cond_false,Int.sub_zero,Int.toNat_natCast]);(try simp only [Zbo,ZdH,ZdK,Zat,Zbx,if_true,if_false]))
    refine .ite (fun hn=>?_) fun hn=>.pure ⟨rfl,by dsimp only;omega,by dsimp only;omega,by dsimp only;omega⟩
    refine .bind (Zdt 256 ((h1.up k1).up q3) (by omega) (by omega) (by omega)) ?_
    rintro ⟨y,b4,p4⟩ ⟨rfl,l1,l2,l3⟩
    dsimp only at l1 l2 l3 ⊢
    ((try simp (disch:=omega) only [Zan,Zam,Zak,Zad,Zas,ZaO,Zaf,Zaz,Zaw,Zae,Option.map_some,cond_true,cond_false,Int.sub_zero,Int.toNat_natCast,List.length_cons,List.length_nil]);(try simp only [Zbo,ZdH,ZdK,Zat,Zbx,if_true,if_false,List.length_cons,List.length_nil]))
    refine ih _ ⟨rfl,by dsimp only;omega,by dsimp only;omega,by dsimp only;omega,by dsimp only;omega,by simp only [List.length_append,List.length_cons,List.length_nil];omega⟩ (by dsimp only;omega)
   ·exact ⟨rfl,by dsimp only;omega,by dsimp only;omega,by dsimp only;omega,by dsimp only;omega,by simp only [List.length_nil];omega⟩
   ·dsimp only;omega
  ·rintro ⟨b3,p3,out⟩ ⟨rfl,m1,m2,m3⟩
   dsimp only at m1 m2 m3 ⊢
   exact .pure ⟨rfl,by dsimp only;omega,by dsimp only;omega,by simp [Zbv];omega⟩
 ·refine .bind (ZjX [113] 300 300 (by omega) (by decide) (by decide) (by omega) (by omega)) ?_
  intro a ha;exact .pure ⟨rfl,by dsimp only;omega,by dsimp only;omega,ha⟩
 ·refine .bind (Zdt 12 h1 (by omega) (by omega) (by omega)) ?_
  rintro ⟨x,b2,p2⟩ ⟨rfl,k1,k2,k3⟩
  dsimp only at k1 k2 k3 ⊢
  refine .bind (P:=fun (o:Str×List Int×Int)=>Zkk b2 p2 12 (fun s=>s.length≤300) o) ?_ ?_
  ·unfold ZbL.l1
   refine Ret.loop (fun (t:Str×Int×List Int×Int)=>t.2.2.1=b2∧0≤t.2.1∧t.2.1≤12∧p2≤t.2.2.2∧t.2.2.2+t.2.1≤p2+12∧t.1.length+6*t.2.1≤72) (fun t=>t.2.1.toNat) (fun _ (o:Str×List Int×Int)=>Zkk b2 p2 12 (fun s=>s.length≤300) o) ?_ _ _ ?_ ?_
   ·rintro again ⟨out,n,b3,p3⟩ ⟨rfl,q1,q2,q3,q4,q5⟩ ih
    dsimp only at q1 q2 q3 q4 q5
    simp only [ZbL.l1.step]
    ((try simp (disch:=omega) only [Zan,Zam,Zak,Zad,Zas,ZaO,Zaf,Zaz,Zaw,Zae,Option.map_some,cond_true,cond_false,Int.sub_zero,Int.toNat_natCast]);(try simp only [Zbo,ZdH,ZdK,Zat,Zbx,if_true,if_false]))
    refine .ite (fun hn=>?_) fun hn=>.pure ⟨rfl,by dsimp only;omega,by dsimp only;omega,by dsimp only;omega⟩
    refine .bind (Zkx _ ((h1.up k1).up q3) (by omega) (by decide) (by decide)) ?_
    rintro ⟨y,b4,p4⟩ ⟨rfl,l1,l2,l3⟩
    dsimp only at l1 l2 l3 ⊢
    have hy:y.length≤6:=by
     simp only [List.mem_cons,List.not_mem_nil,or_false] at l3
     rcases l3 with rfl | rfl | rfl | rfl | rfl | rfl | rfl<;>decide
    ((try simp (disch:=omega) only [Zan,Zam,Zak,Zad,Zas,ZaO,Zaf,Zaz,Zaw,Zae,Option.map_some,cond_true,cond_false,Int.sub_zero,Int.toNat_natCast]);(try simp only [Zbo,ZdH,ZdK,Zat,Zbx,if_true,if_false]))
    refine ih _ ⟨rfl,by dsimp only;omega,by dsimp only;omega,by dsimp only;omega,by dsimp only;omega,by simp only [List.length_append];omega⟩ (by dsimp only;omega)
   ·exact ⟨rfl,by dsimp only;omega,by dsimp only;omega,by dsimp only;omega,by dsimp only;omega,by simp only [List.length_nil];omega⟩
   ·dsimp only;omega
  ·rintro ⟨s,b3,p3⟩ ⟨rfl,m1,m2,m3⟩
   dsimp only at m1 m2 m3 ⊢
   exact .pure ⟨rfl,by dsimp only;omega,by dsimp only;omega,m3⟩
theorem ZqJ {b:List Int} {p:Int} (h:Zjt b p) (hp:p≤800000000):Ret (Zci b p) (Zkk b p 51 fun s=>s.length≤301):=by
 unfold Zci
 refine .bind (Zdt 16 h (by omega) (by omega) (by omega)) ?_
 rintro ⟨r,b1,p1⟩ ⟨rfl,g1,g2,g3⟩
 dsimp only at g1 g2 g3 ⊢
 ((try simp (disch:=omega) only [Zan,Zam,Zak,Zad,Zas,ZaO,Zaf,Zaz,Zaw,Zae,Option.map_some,cond_true,cond_false,Int.sub_zero,Int.toNat_natCast]);(try simp only [Zbo,ZdH,ZdK,Zat,Zbx,if_true,if_false]))
 refine .ite (fun _=>?_) fun _=>?_
 ·refine .bind (ZjX [113] 301 301 (by omega) (by decide) (by decide) (by omega) (by omega)) ?_
  intro a ha;exact .pure ⟨rfl,by dsimp only;omega,by dsimp only;omega,ha⟩
 ·refine .bind (Zl1 (h.up g1) (by omega)) ?_
  rintro ⟨x,b2,p2⟩ ⟨rfl,k1,k2,k3⟩
  dsimp only at k1 k2 k3 ⊢
  exact .pure ⟨rfl,by dsimp only;omega,by dsimp only;omega,by dsimp only;omega⟩
end Ev
end
section
namespace Ev
open Go
def ZiN:List Str:=[[97],[98,46,116,120,116],[100,105,114,47,97],[100,105,114,47,98],[120,45,121,95,122],[97,47,98,47,99,47,100],[114,101,97,100,109,101],[],[47],[97,47],[46,46],[97,47,46,46,47,98],[65],[97,32,98],[101,108,101,118,101,110,108,101,116,116,101],[97,47,98,47,99,47,100,47,101],[102,48],[102,49],[102,50],[102,51],[102,52],[102,53]]
theorem ZoV {b:List Int} {p:Int} (h:Zjt b p) (hp:p≤800000000):Ret (Zcj b p) (Zkk b p 2 fun s=>s∈ZiN):=by
 unfold Zcj
 refine .bind (Zdt 6 h (by omega) (by omega) (by omega)) ?_
 rintro ⟨r,b1,p1⟩ ⟨rfl,g1,g2,g3⟩
 dsimp only at g1 g2 g3 ⊢
 refine .cond (fun _=>?_) fun _=>?_
 ·refine .bind (Zkx _ (h.up g1) (by omega) (by decide) (by decide)) ?_
  rintro ⟨x,b2,p2⟩ ⟨rfl,k1,k2,k3⟩
  dsimp only at k1 k2 k3 ⊢
  refine .pure ⟨rfl,by dsimp only;omega,by dsimp only;omega,?_⟩
  dsimp only
  simp only [List.mem_cons,List.not_mem_nil,or_false] at k3
  rcases k3 with rfl | rfl | rfl | rfl | rfl | rfl | rfl | rfl | rfl<;>decide
 ·have h1:=h.up g1
  refine .bind (P:=Zkk b1 p1 1 fun s=>s∈ZiN) ?_ ?_
  ·unfold ZcS
   refine .bind (Zkx _ h1 (by omega) (by decide) (by decide)) ?_
   rintro ⟨x,b2,p2⟩ ⟨rfl,k1,k2,k3⟩
   dsimp only at k1 k2 k3 ⊢
   refine .pure ⟨rfl,k1,k2,?_⟩
   dsimp only
   simp only [List.mem_cons,List.not_mem_nil,or_false] at k3
   rcases k3 with rfl | rfl | rfl | rfl | rfl | rfl | rfl<;>decide
  ·rintro ⟨x,b2,p2⟩ ⟨rfl,k1,k2,k3⟩
   dsimp only at k1 k2 k3 ⊢
   exact .pure ⟨rfl,by dsimp only;omega,by dsimp only;omega,k3⟩
theorem Zvr:∀s∈ZiN,s.length≤11:=by decide
end Ev
end
section
namespace Ev
open Go
theorem Zfk (n k:Nat) (hk:k≤64):ZmO .i64 (n:Int) (k:Int)=((n/2^k:Nat):Int):=by
 unfold ZmO
 rw [Int.toNat_natCast,show min k IntKind.i64.bits=k from Nat.min_eq_left hk,show ((2:Int)^k)=((2^k:Nat):Int) by simp,Int.fdiv_eq_ediv_of_nonneg _ (Int.natCast_nonneg _)]
 exact (Int.natCast_ediv n (2^k)).symm
theorem ZeJ (n k:Nat) (hk:k≤64) (h:n*2^k<9223372036854775808):Zrw .i64 (n:Int) (k:Int)=((n*2^k:Nat):Int):=by
 unfold Zrw
 rw [Int.toNat_natCast,show min k IntKind.i64.bits=k from Nat.min_eq_left hk,show ((2:Int)^k)=((2^k:Nat):Int) by simp,←Int.natCast_mul]
 exact ZgG (by omega) (by omega)
theorem Ztg (x y:Nat) (hx:x<9223372036854775808) (hy:y<9223372036854775808):ZkF .i64 (x:Int) (y:Int)=((x &&& y:Nat):Int):=by
 have hz:x &&& y<2^63:=Nat.and_lt_two_pow _ (by omega)
 unfold ZkF
 have e:(BitVec.ofInt IntKind.i64.bits (x:Int) &&& BitVec.ofInt IntKind.i64.bits (y:Int)).toNat=x &&& y:=by
  simp only [BitVec.ofInt_natCast,BitVec.toNat_and,BitVec.toNat_ofNat,show IntKind.i64.bits=64 from rfl]
  rw [Nat.mod_eq_of_lt (by omega),Nat.mod_eq_of_lt (by omega)]
 rw [e,ZgG (by omega) (by omega)]
theorem ZjZ (x y:Nat) (hx:x<9223372036854775808) (hy:y<9223372036854775808):ior .i64 (x:Int) (y:Int)=((x ||| y:Nat):Int):=by
 have hz:x ||| y<2^63:=Nat.or_lt_two_pow (by omega) (by omega)
 unfold ior
 have e:(BitVec.ofInt IntKind.i64.bits (x:Int) ||| BitVec.ofInt IntKind.i64.bits (y:Int)).toNat=x ||| y:=by
  simp only [BitVec.ofInt_natCast,BitVec.toNat_or,BitVec.toNat_ofNat,show IntKind.i64.bits=64 from rfl]
  rw [Nat.mod_eq_of_lt (by omega),Nat.mod_eq_of_lt (by omega)]
 rw [e,ZgG (by omega) (by omega)]
theorem Zyf (x y:Nat) (hx:x<256) (hy:y<256):ior .u8 (x:Int) (y:Int)=((x ||| y:Nat):Int):=by
 have hz:x ||| y<2^8:=Nat.or_lt_two_pow (by omega) (by omega)
 unfold ior
 have e:(BitVec.ofInt IntKind.u8.bits (x:Int) ||| BitVec.ofInt IntKind.u8.bits (y:Int)).toNat=x ||| y:=by
  simp only [BitVec.ofInt_natCast,BitVec.toNat_or,BitVec.toNat_ofNat,show IntKind.u8.bits=8 from rfl]
  rw [Nat.mod_eq_of_lt (by omega),Nat.mod_eq_of_lt (by omega)]
 rw [e,show IntKind.u8.wrap=IntKind.wrap .u8 from rfl]
 have:=wrap_u8' (((x ||| y:Nat)):Int)
 rw [this];omega
where
 wrap_u8' (n:Int):IntKind.wrap .u8 n=n%256:=by simp [IntKind.wrap,IntKind.bits,IntKind.signed]
theorem Zk2 (x:Nat) (hx:x<9223372036854775808):ZkF .i64 (x:Int) 1=((x%2:Nat):Int):=by
 have:=Ztg x 1 hx (by omega)
 rw [Nat.and_one_is_mod] at this
 exact this
theorem ZlG (x c k:Nat) (h:x<2^k):x ||| c*2^k=x+c*2^k:=by
 have:=Nat.two_pow_add_eq_or_of_lt h c
 rw [Nat.or_comm,Nat.mul_comm c,←this,Nat.add_comm]
theorem ZdU (n k:Nat):n/2^k%2=(n.testBit k).toNat:=by
 rw [Nat.testBit_eq_decide_div_mod_eq]
 have:n/2^k%2<2:=Nat.mod_lt _ (by omega)
 by_cases h:n/2^k%2=1
 ·simp [h]
 ·have:n/2^k%2=0:=by omega
  simp [this]
def ZbH (n:Nat):Nat→List Bool
 | 0=>[]
 | k+1=>ZbH n k++[n.testBit k]
def Zcn:List Bool→Nat
 | []=>0
 | b::l=>b.toNat+2*Zcn l
theorem Zaj (n:Nat):∀k,(ZbH n k).length=k
 | 0=>rfl
 | k+1=>by simp [ZbH,Zaj n k]
theorem Zex (a b:List Bool):Zcn (a++b)=Zcn a+2^a.length*Zcn b:=by
 induction a with
 | nil=>simp [Zcn]
 | cons x l ih=>
  simp only [List.cons_append,Zcn,ih,List.length_cons,Nat.pow_succ]
  rw [Nat.mul_add,Nat.add_assoc];congr 2
  rw [←Nat.mul_assoc,Nat.mul_comm 2]
theorem Zle (l:List Bool):Zcn l<2^l.length:=by
 induction l with
 | nil=>simp [Zcn]
 | cons x l ih=>
  simp only [Zcn,List.length_cons,Nat.pow_succ]
  have:x.toNat≤1:=by cases x<;>decide
  omega
theorem Zld (n:Nat):∀k,Zcn (ZbH n k)=n%2^k
 | 0=>by simp [ZbH,Zcn,Nat.mod_one]
 | k+1=>by
  rw [ZbH,Zex,Zld n k,Zaj]
  simp only [Zcn,Nat.mul_zero,Nat.add_zero]
  rw [←ZdU,Nat.mod_pow_succ]
def Zfe (l:List Bool):List Int:=(List.range ((l.length+7)/8)).map fun i=>((Zcn ((l.drop (8*i)).take 8):Nat):Int)
theorem Zde (l:List Bool):(Zfe l).length=(l.length+7)/8:=by simp [Zfe]
theorem ZsG (l:List Bool) (i:Nat) (h:i<(l.length+7)/8):(Zfe l).getD i 0=((Zcn ((l.drop (8*i)).take 8):Nat):Int):=by
 simp [Zfe,List.getD,h]
theorem ZtR (l:List Bool) (c:Bool) (h:l.length%8=0):Zfe (l++[c])=Zfe l++[((c.toNat:Nat):Int)]:=by
 apply List.ext_getElem
 ·simp [Zde];omega
 ·intro i h1 h2
  rw [Zde,List.length_append,List.length_singleton] at h1
  simp only [Zfe,List.getElem_map,List.getElem_range]
  by_cases hi:i<(l.length+7)/8
  ·rw [List.getElem_append_left (by simpa using hi)]
   simp only [List.getElem_map,List.getElem_range]
   rw [List.drop_append_of_le_length (by omega),List.take_append_of_le_length (by simp;omega)]
  ·rw [List.getElem_append_right (by simp;omega)]
   have:8*i=l.length:=by omega
   rw [this,List.drop_left]
   simp [Zcn]
theorem ZtQ (l:List Bool) (c:Bool) (h:l.length%8≠0) :
  Zfe (l++[c])=(Zfe l).set (l.length/8) ((Zfe l).getD (l.length/8) 0+(c.toNat*2^(l.length%8):Nat)):=by
 apply List.ext_getElem
 ·simp [Zde];omega
 ·intro i h1 h2
  rw [Zde,List.length_append,List.length_singleton] at h1
  have hi:i<(l.length+7)/8:=by omega
  rw [List.getElem_set]
  simp only [Zfe,List.getElem_map,List.getElem_range]
  split
  ·rename_i e
   have:=ZsG l (l.length/8) (by omega)
   unfold Zfe at this
   rw [this,←e]
   have hl:(l.drop (8*(l.length/8))).length=l.length%8:=by rw [List.length_drop];omega
   rw [List.drop_append_of_le_length (by omega),List.take_of_length_le (by simp;omega),List.take_of_length_le (by omega),Zex,hl]
   simp only [Zcn,Nat.mul_zero,Nat.add_zero]
   rw [Nat.mul_comm (2^_)]
   omega
  ·rename_i e
   rw [List.drop_append_of_le_length (by omega),List.take_append_of_le_length (by simp;omega)]
theorem Zw7 (l:List Bool) (h:l.length%8≠0):∃x:Nat,(Zfe l).getD (l.length/8) 0=(x:Int)∧x<2^(l.length%8):=by
 refine ⟨_,ZsG l _ (by omega),?_⟩
 have:=Zle ((l.drop (8*(l.length/8))).take 8)
 have hl:((l.drop (8*(l.length/8))).take 8).length=l.length%8:=by simp;omega
 rwa [hl] at this
theorem ZuR (n k:Nat) (hn:n<9223372036854775808) (hk:k≤62):∀(m i:Nat) (l:List Bool),i+m=k→l.length+m≤100000000→
  ZeL.l0 (m+1) ((n:Int),(k:Int),(i:Int),(l.length:Int),Zfe l)=some ((((l++((ZbH n k).drop i)).length:Nat):Int),Zfe (l++((ZbH n k).drop i)))
 | 0,i,l,hi,hl=>by
  rw [ZeL.l0.succ]
  simp only [ZeL.l0.step]
  rw [ZaZ (by omega),List.drop_eq_nil_of_le (by rw [Zaj];omega)]
  simp
 | m+1,i,l,hi,hl=>by
  have ik:i<k:=by omega
  have hd:(ZbH n k).drop i=n.testBit i::(ZbH n k).drop (i+1):=by
   have e:(ZbH n k)[i]'(by rw [Zaj];exact ik)=n.testBit i:=by
    clear hi hl hk
    induction k with
    | zero=>omega
    | succ k ih=>
     simp only [ZbH]
     by_cases h:i<k
     ·rw [List.getElem_append_left (by rw [Zaj];exact h)];exact ih h
     ·have:i=k:=by omega
      subst this
      rw [List.getElem_append_right (by rw [Zaj];omega)]
      simp
   rw [List.drop_eq_getElem_cons (by rw [Zaj];exact ik),e]
  have ih:=ZuR n k hn hk m (i+1) (l++[n.testBit i]) (by omega) (by simp;omega)
  rw [ZeL.l0.succ]
  simp only [ZeL.l0.step]
  rw [ZaY ik,cond_true]
  have hmod:((l.length:Int)).tmod 8=((l.length%8:Nat):Int):=by rw [Zaz (by omega)];omega
  have hdiv:((l.length:Int)).tdiv 8=((l.length/8:Nat):Int):=by rw [Zaw (by omega)];omega
  have hbit:ZkF .i64 (ZmO .i64 (n:Int) (i:Int)) 1=(((n.testBit i).toNat:Nat):Int):=by
   rw [Zfk n i (by omega),Zk2 _ (Nat.lt_of_le_of_lt (Nat.div_le_self _ _) hn),ZdU]
  have hc:(n.testBit i).toNat≤1:=by cases n.testBit i<;>decide
  have hp:2^(l.length%8)≤2^7:=Nat.pow_le_pow_right (by omega) (by omega)
  have hle:(n.testBit i).toNat*2^(l.length%8)≤128:=by
   calc _≤1*2^7:=Nat.mul_le_mul hc hp
    _=128:=by decide
  have hshl:Zrw .i64 (((n.testBit i).toNat:Nat):Int) ((l.length%8:Nat):Int)=(((n.testBit i).toNat*2^(l.length%8):Nat):Int):=ZeJ _ _ (by omega) (by omega)
  have hwr:IntKind.wrap .u8 (((n.testBit i).toNat*2^(l.length%8):Nat):Int)=(((n.testBit i).toNat*2^(l.length%8):Nat):Int):=by
   rw [show IntKind.wrap .u8 (((n.testBit i).toNat*2^(l.length%8):Nat):Int)=(((n.testBit i).toNat*2^(l.length%8):Nat):Int)%256 by simp [IntKind.wrap,IntKind.bits,IntKind.signed]]
   omega
  simp only [hmod]
  by_cases h0:l.length%8=0
  ·have e0:(((l.length%8:Nat):Int)==0)=true:=by simp [h0]
   simp only [e0,cond_true]
   rw [Zab _ (Ze2 (by simp [Zde];omega))]
   simp only [Zae,hmod,hdiv,hbit,hshl,hwr]
   have hlt:l.length/8<(Zfe l++[0]).length:=by rw [List.length_append,Zde];simp;omega
   have hat:l.length/8=(Zfe l).length:=by rw [Zde];omega
   ((try simp (disch:=omega) only [Zan,Zam,Zak,Zad,Zas,ZaO,Zaf,Zaz,Zaw,Zae,Option.map_some,cond_true,cond_false,Int.sub_zero,Int.toNat_natCast]);(try simp only [Zbo,ZdH,ZdK,Zat,Zbx,if_true,if_false]))
   rw [hat,List.getD_eq_getElem?_getD,List.getElem?_concat_length,Option.getD_some,←hat]
   have hz:ior .u8 0 (((n.testBit i).toNat*2^(l.length%8):Nat):Int)=(((n.testBit i).toNat:Nat):Int):=by
    have:=Zyf 0 ((n.testBit i).toNat*2^(l.length%8)) (by omega) (by omega)
    rw [show ((0:Nat):Int)=0 from rfl] at this
    rw [this,Nat.zero_or,h0];simp
   rw [hz,hat,List.set_append_right _ _ (Nat.le_refl _),Nat.sub_self,List.set_cons_zero,←ZtR l _ h0]
   rw [show ((i:Int)+1)=((i+1:Nat):Int) by omega,show ((l.length:Int)+1)=(((l++[n.testBit i]).length:Nat):Int) by simp]
   rw [ih,hd,List.append_assoc];rfl
  ·have e0:(((l.length%8:Nat):Int)==0)=false:=by simp;omega
   simp only [e0,cond_false,Zae,hmod,hdiv,hbit,hshl,hwr]
   have hlt:l.length/8<(Zfe l).length:=by rw [Zde];omega
   obtain ⟨x,hx,hxl⟩:=Zw7 l h0
   have hx8:x<128:=Nat.lt_of_lt_of_le hxl hp
   ((try simp (disch:=omega) only [Zan,Zam,Zak,Zad,Zas,ZaO,Zaf,Zaz,Zaw,Zae,Option.map_some,cond_true,cond_false,Int.sub_zero,Int.toNat_natCast]);(try simp only [Zbo,ZdH,ZdK,Zat,Zbx,if_true,if_false]))
   rw [hx]
   rw [Zyf x _ (by omega) (by omega),ZlG x _ _ hxl]
   have:=ZtQ l (n.testBit i) h0
   rw [hx] at this
   rw [show (((x+(n.testBit i).toNat*2^(l.length%8):Nat)):Int)=(x:Int)+(((n.testBit i).toNat*2^(l.length%8):Nat):Int) by omega,←this]
   rw [show ((i:Int)+1)=((i+1:Nat):Int) by omega,show ((l.length:Int)+1)=(((l++[n.testBit i]).length:Nat):Int) by simp]
   rw [ih,hd,List.append_assoc];rfl
theorem Zew (n k:Nat) (hn:n<9223372036854775808) (hk:k≤62) (l:List Bool) (hl:l.length≤90000000) :
  ZeL (n:Int) (k:Int) (l.length:Int) (Zfe l)=some ((((l++ZbH n k).length:Nat):Int),Zfe (l++ZbH n k)):=by
 unfold ZeL
 have:=ZuR n k hn hk k 0 l (by omega) (by omega)
 rw [ZaJ,show (0:Int)=((0:Nat):Int) from rfl,this]
 simp
end Ev
end
section
namespace Ev
open Go
theorem ZiM (n:Nat):∀(k i:Nat) (h:i<k),(ZbH n k)[i]'(by rw [Zaj];exact h)=n.testBit i
 | 0,i,h=>by omega
 | k+1,i,h=>by
  simp only [ZbH]
  by_cases hi:i<k
  ·rw [List.getElem_append_left (by rw [Zaj];exact hi)];exact ZiM n k i hi
  ·have:i=k:=by omega
   subst this
   rw [List.getElem_append_right (by rw [Zaj];omega)]
   simp
theorem Zs4:∀(m:Nat) (o:Nat),m≤62→o*2^m<9223372036854775808→ZcG.l0 (m+1) ((m:Int),(o:Int))=some ((o*2^m:Nat):Int)
 | 0,o,hm,h=>by
  rw [ZcG.l0.succ];simp only [ZcG.l0.step]
  ((try simp (disch:=omega) only [Zan,Zam,Zak,Zad,Zas,ZaO,Zaf,Zaz,Zaw,Zae,Option.map_some,cond_true,cond_false,Int.sub_zero,Int.toNat_natCast]);(try simp only [Zbo,ZdH,ZdK,Zat,Zbx,if_true,if_false]))
  rw [if_neg (by omega)];simp
 | m+1,o,hm,h=>by
  have h2:o*2^(m+1)=2*o*2^m:=by rw [Nat.pow_succ,Nat.mul_comm (2^m) 2,←Nat.mul_assoc,Nat.mul_comm o 2]
  have hle:2*o≤2*o*2^m:=Nat.le_mul_of_pos_right _ (Nat.two_pow_pos m)
  rw [ZcG.l0.succ];simp only [ZcG.l0.step]
  ((try simp (disch:=omega) only [Zan,Zam,Zak,Zad,Zas,ZaO,Zaf,Zaz,Zaw,Zae,Option.map_some,cond_true,cond_false,Int.sub_zero,Int.toNat_natCast]);(try simp only [Zbo,ZdH,ZdK,Zat,Zbx,if_true,if_false]))
  rw [if_pos (by omega),show (((m+1:Nat):Int)-1)=(m:Int) by omega,show (2*(o:Int))=((2*o:Nat):Int) by omega,Zs4 m (2*o) (by omega) (by omega),h2]
theorem ZhM (n:Nat) (hn:n≤62):ZcG (n:Int)=some ((2^n:Nat):Int):=by
 unfold ZcG
 have hp:2^n≤2^62:=Nat.pow_le_pow_right (by omega) hn
 have:=Zs4 n 1 hn (by omega)
 rw [show ((n:Int)-0).toNat+1=n+1 by omega,show (1:Int)=((1:Nat):Int) from rfl,this,Nat.one_mul]
 rfl
def oT (l:List Bool):List Int:=(List.range (l.length/8)).map fun i=>((Zcn ((l.drop (8*i)).take 8):Nat):Int)
def oL (l:List Bool):Nat:=Zcn (l.drop (8*(l.length/8)))
theorem oL_lt (l:List Bool):oL l<2^(l.length%8):=by
 have:=Zle (l.drop (8*(l.length/8)))
 have hl:(l.drop (8*(l.length/8))).length=l.length%8:=by rw [List.length_drop];omega
 rwa [hl] at this
theorem Zvm (l:List Bool):(oT l).length=l.length/8:=by simp [oT]
theorem ZyC (l:List Bool) (c:Bool) (h:l.length%8≠7):oL (l++[c])=oL l+c.toNat*2^(l.length%8):=by
 unfold oL
 have e:(l++[c]).length/8=l.length/8:=by simp;omega
 have hl:(l.drop (8*(l.length/8))).length=l.length%8:=by rw [List.length_drop];omega
 rw [e,List.drop_append_of_le_length (by omega),Zex,hl]
 simp only [Zcn,Nat.mul_zero,Nat.add_zero]
 rw [Nat.mul_comm (2^_)]
theorem ZyA (l:List Bool) (c:Bool) (h:l.length%8≠7):oT (l++[c])=oT l:=by
 unfold oT
 have e:(l++[c]).length/8=l.length/8:=by simp;omega
 rw [e]
 apply List.map_congr_left
 intro i hi
 have:=List.mem_range.1 hi
 rw [List.drop_append_of_le_length (by omega),List.take_append_of_le_length (by simp;omega)]
theorem ZyB (l:List Bool) (c:Bool) (h:l.length%8=7):oT (l++[c])=oT l++[((oL l+c.toNat*2^(l.length%8):Nat):Int)]∧oL (l++[c])=0:=by
 have e:(l++[c]).length/8=l.length/8+1:=by simp;omega
 have hl:(l.drop (8*(l.length/8))).length=l.length%8:=by rw [List.length_drop];omega
 constructor
 ·unfold oT oL
  rw [e,List.range_succ,List.map_append,List.map_singleton]
  congr 1
  ·apply List.map_congr_left
   intro i hi
   have:=List.mem_range.1 hi
   rw [List.drop_append_of_le_length (by omega),List.take_append_of_le_length (by simp;omega)]
  ·rw [List.drop_append_of_le_length (by omega),List.take_of_length_le (by simp;omega),Zex,hl]
   simp only [Zcn,Nat.mul_zero,Nat.add_zero]
   rw [Nat.mul_comm (2^_)]
 ·unfold oL
  rw [e,List.drop_eq_nil_of_le (by simp;omega)];rfl
theorem Zvn (n k:Nat) (hn:n<4611686018427387904) (hk:k≤1000):∀(m i:Nat) (l:List Bool),i+m=k→l.length+m≤100000000→
  Zd3.l0 (m+1) (((n/2^i:Nat):Int),(k:Int),(i:Int),(oL l:Int),((l.length%8:Nat):Int),oT l) =
   some ((oL (l++(ZbH n k).drop i):Int),(((l++(ZbH n k).drop i).length%8:Nat):Int),oT (l++(ZbH n k).drop i))
 | 0,i,l,hi,hl=>by
  rw [Zd3.l0.succ];simp only [Zd3.l0.step]
  rw [ZaZ (by omega),List.drop_eq_nil_of_le (by rw [Zaj];omega)]
  simp
 | m+1,i,l,hi,hl=>by
  have ik:i<k:=by omega
  have hd:(ZbH n k).drop i=n.testBit i::(ZbH n k).drop (i+1):=by
   rw [List.drop_eq_getElem_cons (by rw [Zaj];exact ik),ZiM n k i ik]
  have ih:=Zvn n k hn hk m (i+1) (l++[n.testBit i]) (by omega) (by simp;omega)
  have hL:=oL_lt l
  have hp:2^(l.length%8)≤2^7:=Nat.pow_le_pow_right (by omega) (by omega)
  have hc:(n.testBit i).toNat≤1:=by cases n.testBit i<;>decide
  have hle:(n.testBit i).toNat*2^(l.length%8)≤1*2^(l.length%8):=Nat.mul_le_mul_right _ hc
  have hdn:n/2^i≤n:=Nat.div_le_self _ _
  have hbit:(((n/2^i:Nat):Int)).tmod 2=(((n.testBit i).toNat:Nat):Int):=by
   rw [Zaz (Int.natCast_nonneg _),←ZdU];exact (Int.natCast_emod _ 2).symm
  have hhalf:(((n/2^i:Nat):Int)).tdiv 2=((n/2^(i+1):Nat):Int):=by
   rw [Zaw (Int.natCast_nonneg _),Nat.pow_succ,←Nat.div_div_eq_div_mul];exact (Int.natCast_ediv _ 2).symm
  rw [Zd3.l0.succ];simp only [Zd3.l0.step]
  rw [ZaY ik,cond_true,ZhM _ (by omega)]
  simp only [Zae,hbit,hhalf]
  rw [show (((n.testBit i).toNat:Nat):Int)*((2^(l.length%8):Nat):Int)=(((n.testBit i).toNat*2^(l.length%8):Nat):Int) by rw [Int.natCast_mul]]
  have hdn2:n/2^(i+1)≤n:=Nat.div_le_self _ _
  have hw:w64 ((n/2^(i+1):Nat):Int)=((n/2^(i+1):Nat):Int):=by
   generalize n/2^(i+1)=q at hdn2 ⊢
   exact Zaf (by omega) (by omega)
  simp only [hw]
  by_cases h7:l.length%8=7
  ·obtain ⟨f1,f2⟩:=ZyB l (n.testBit i) h7
   have e8:((((l.length%8:Nat):Int)+1)==8)=true:=by simp;omega
   ((try simp (disch:=omega) only [Zan,Zam,Zak,Zad,Zas,ZaO,Zaf,Zaz,Zaw,Zae,Option.map_some,cond_true,cond_false,Int.sub_zero,Int.toNat_natCast,e8]);(try simp only [Zbo,ZdH,ZdK,Zat,Zbx,if_true,if_false,e8]))
   rw [Zab _ (Ze2 (by simp [Zvm];omega))]
   have hwr:IntKind.wrap .u8 ((oL l:Int)+(((n.testBit i).toNat*2^(l.length%8):Nat):Int))=(((oL l+(n.testBit i).toNat*2^(l.length%8):Nat)):Int):=by
    rw [show IntKind.wrap .u8 ((oL l:Int)+(((n.testBit i).toNat*2^(l.length%8):Nat):Int))=((oL l:Int)+(((n.testBit i).toNat*2^(l.length%8):Nat):Int))%256 by simp [IntKind.wrap,IntKind.bits,IntKind.signed]]
    omega
   rw [hwr,←f1]
   have hm:(l++[n.testBit i]).length%8=0:=by simp;omega
   rw [f2,hm] at ih
   rw [show ((i:Int)+1)=((i+1:Nat):Int) by omega]
   rw [show (0:Int)=((0:Nat):Int) from rfl,ih,hd,List.append_assoc];rfl
  ·have e8:((((l.length%8:Nat):Int)+1)==8)=false:=by simp;omega
   ((try simp (disch:=omega) only [Zan,Zam,Zak,Zad,Zas,ZaO,Zaf,Zaz,Zaw,Zae,Option.map_some,cond_true,cond_false,Int.sub_zero,Int.toNat_natCast,e8]);(try simp only [Zbo,ZdH,ZdK,Zat,Zbx,if_true,if_false,e8]))
   have hm:(l++[n.testBit i]).length%8=l.length%8+1:=by simp;omega
   rw [ZyC l _ h7,ZyA l _ h7,hm] at ih
   rw [show ((i:Int)+1)=((i+1:Nat):Int) by omega,show (((l.length%8:Nat):Int)+1)=((l.length%8+1:Nat):Int) by omega,
    show (oL l:Int)+(((n.testBit i).toNat*2^(l.length%8):Nat):Int)=(((oL l+(n.testBit i).toNat*2^(l.length%8):Nat)):Int) by omega]
   rw [ih,hd,List.append_assoc];rfl
theorem Zed (n k:Nat) (hn:n<4611686018427387904) (hk:k≤1000) (l:List Bool) (hl:l.length+k≤90000000) :
  Zd3 (n:Int) (k:Int) (oL l:Int) ((l.length%8:Nat):Int) (oT l)=some ((oL (l++ZbH n k):Int),(((l++ZbH n k).length%8:Nat):Int),oT (l++ZbH n k)):=by
 unfold Zd3
 have:=Zvn n k hn hk k 0 l (by omega) (by omega)
 rw [ZaJ]
 simp only [Nat.pow_zero,Nat.div_one,List.drop_zero] at this
 rw [show (0:Int)=((0:Nat):Int) from rfl,this]
 rfl
theorem Zqb:∀k,ZbH 0 k=List.replicate k false
 | 0=>rfl
 | k+1=>by rw [ZbH,Zqb k,List.replicate_succ'];simp
def ZhV (l:List Bool):List Bool:=l++List.replicate ((8-l.length%8)%8) false
theorem ZfY (l:List Bool):(ZhV l).length=8*((l.length+7)/8):=by simp [ZhV];omega
theorem ZiJ (l:List Bool):Zfe l=oT (ZhV l)∧Zfe (ZhV l)=Zfe l:=by
 have key:∀i,Zcn (((ZhV l).drop (8*i)).take 8)=Zcn ((l.drop (8*i)).take 8):=fun i=>by
  have z:∀k,Zcn (List.replicate k false)=0:=fun k=>by induction k with
   | zero=>rfl
   | succ k ih=>rw [List.replicate_succ];simp [Zcn,ih]
  have vt:∀(a b:List Bool) k,Zcn b=0→(∀j,Zcn (b.take j)=0)→Zcn ((a++b).take k)=Zcn (a.take k):=fun a b k h1 h2=>by
   rw [List.take_append,Zex,h2];simp
  unfold ZhV
  by_cases h:8*i≤l.length
  ·rw [List.drop_append_of_le_length h]
   exact vt _ _ _ (z _) (fun j=>by rw [List.take_replicate];exact z _)
  ·rw [List.drop_eq_nil_of_le (by omega:l.length≤8*i),List.drop_append,List.drop_eq_nil_of_le (by omega:l.length≤8*i),List.nil_append,List.drop_replicate,List.take_replicate,z];rfl
 constructor
 ·unfold Zfe oT
  rw [ZfY,show 8*((l.length+7)/8)/8=(l.length+7)/8 by omega]
  exact List.map_congr_left fun i _=>by rw [key]
 ·unfold Zfe
  rw [ZfY,show (8*((l.length+7)/8)+7)/8=(l.length+7)/8 by omega]
  exact List.map_congr_left fun i _=>by rw [key]
theorem Zp9 (l:List Bool) (hl:l.length≤80000000):ZdA (oL l:Int) ((l.length%8:Nat):Int) (oT l)=some ((oL (ZhV l):Int),0,Zfe l):=by
 unfold ZdA
 ((try simp (disch:=omega) only [Zan,Zam,Zak,Zad,Zas,ZaO,Zaf,Zaz,Zaw,Zae,Option.map_some,cond_true,cond_false,Int.sub_zero,Int.toNat_natCast]);(try simp only [Zbo,ZdH,ZdK,Zat,Zbx,if_true,if_false]))
 by_cases h:l.length%8=0
 ·rw [if_neg (by omega)]
  have e:ZhV l=l:=by unfold ZhV;rw [h];simp
  rw [(ZiJ l).1,e,h];rfl
 ·rw [if_pos (by omega),show (8-((l.length%8:Nat):Int))=((8-l.length%8:Nat):Int) by omega,show (0:Int)=((0:Nat):Int) from rfl,Zed 0 _ (by omega) (by omega) l (by omega)]
  simp only [Zae,Zqb]
  have e:l++List.replicate (8-l.length%8) false=ZhV l:=by unfold ZhV;rw [Nat.mod_eq_of_lt (by omega:8-l.length%8<8)]
  rw [e,(ZiJ l).1,ZfY]
  simp
def Zow (n k:Nat):Nat:=Zcn (ZbH n k).reverse
theorem ZpE (n k:Nat):Zow n (k+1)=2*Zow n k+n/2^k%2:=by
 unfold Zow
 rw [ZbH,List.reverse_append]
 simp only [List.reverse_cons,List.reverse_nil,List.nil_append,List.singleton_append,Zcn]
 rw [ZdU];omega
theorem Zov (n k:Nat):Zow n k<2^k:=by
 have:=Zle (ZbH n k).reverse
 rwa [List.length_reverse,Zaj] at this
theorem ZmH (n k:Nat) (hn:n<9223372036854775808) (hk:k≤60):∀(m i:Nat),i+m=k→Zby.l0 (m+1) ((n:Int),(Zow n i:Int),(k:Int),(i:Int))=some (Zow n k:Int)
 | 0,i,hi=>by
  rw [Zby.l0.succ];simp only [Zby.l0.step]
  rw [ZaZ (by omega)]
  have:i=k:=by omega
  subst this;rfl
 | m+1,i,hi=>by
  have ht:=Zov n i
  have hp:2^i≤2^60:=Nat.pow_le_pow_right (by omega) (by omega)
  have hm:n/2^i%2<2:=Nat.mod_lt _ (by omega)
  rw [Zby.l0.succ];simp only [Zby.l0.step]
  rw [ZaY (by omega),cond_true,Zfk n i (by omega),Zk2 _ (Nat.lt_of_le_of_lt (Nat.div_le_self _ _) hn)]
  ((try simp (disch:=omega) only [Zan,Zam,Zak,Zad,Zas,ZaO,Zaf,Zaz,Zaw,Zae,Option.map_some,cond_true,cond_false,Int.sub_zero,Int.toNat_natCast]);(try simp only [Zbo,ZdH,ZdK,Zat,Zbx,if_true,if_false]))
  rw [show 2*(Zow n i:Int)+((n/2^i%2:Nat):Int)=(Zow n (i+1):Int) by rw [ZpE];omega,show ((i:Int)+1)=((i+1:Nat):Int) by omega]
  exact ZmH n k hn hk m (i+1) (by omega)
theorem ZdI (n a b:Int):Zbt n a b=some (decide (a≤n∧n≤b)):=by
 unfold Zbt
 by_cases h1:n≥a<;>by_cases h2:n≤b<;>simp [h1,h2]<;>omega
theorem Zk0 (n a b:Int):Zhc n a b=some (decide (a≤n∧n≤b)):=ZdI n a b
theorem ZtP (n k:Nat) (hk:k≤16) (hn:n<2^k):Zec (n:Int) (k:Int)=some true:=by
 unfold Zec
 have hp:2^k≤2^16:=Nat.pow_le_pow_right (by omega) hk
 rw [ZdI]
 simp only [Zae]
 have h1:decide ((0:Int)≤(k:Int)∧(k:Int)≤16)=true:=by simp;omega
 have:=ZeJ 1 k (by omega) (by omega)
 rw [show ((1:Nat):Int)=1 from rfl] at this
 rw [h1,cond_true,this]
 ((try simp (disch:=omega) only [Zan,Zam,Zak,Zad,Zas,ZaO,Zaf,Zaz,Zaw,Zae,Option.map_some,cond_true,cond_false,Int.sub_zero,Int.toNat_natCast]);(try simp only [Zbo,ZdH,ZdK,Zat,Zbx,if_true,if_false]))
 rw [ZdI]
 have h2:decide ((0:Int)≤(n:Int)∧(n:Int)≤((1*2^k:Nat):Int)-1)=true:=by
  rw [decide_eq_true_eq];omega
 rw [h2];rfl
theorem Zsl (n k:Nat) (hk:k≤16) (hn:n<2^k):Zby (n:Int) (k:Int)=some (Zow n k:Int):=by
 have hp:2^k≤2^16:=Nat.pow_le_pow_right (by omega) hk
 unfold Zby
 rw [ZtP n k hk hn]
 simp only [Zae,Bool.not_true,cond_false]
 have:=ZmH n k (by omega) (by omega) k 0 (by omega)
 rw [ZaJ]
 rw [show (Zow n 0:Int)=0 from rfl,show ((0:Nat):Int)=0 from rfl] at this
 rw [this];rfl
theorem ZqH (n k:Nat) (hn:n<4611686018427387904) (hk:k≤60):∀(m i:Nat),i+m=k→Zc2.l0 (m+1) (((n/2^i:Nat):Int),(k:Int),(Zow n i:Int),(i:Int))=some (Zow n k:Int)
 | 0,i,hi=>by
  rw [Zc2.l0.succ];simp only [Zc2.l0.step]
  rw [ZaZ (by omega)]
  have:i=k:=by omega
  subst this;rfl
 | m+1,i,hi=>by
  have ht:=Zov n i
  have hp:2^i≤2^60:=Nat.pow_le_pow_right (by omega) (by omega)
  have hm:n/2^i%2<2:=Nat.mod_lt _ (by omega)
  have hdn:n/2^i≤n:=Nat.div_le_self _ _
  have hts:Zow n (i+1)=2*Zow n i+n/2^i%2:=ZpE n i
  have hq:n/2^(i+1)=n/2^i/2:=by rw [Nat.pow_succ,←Nat.div_div_eq_div_mul]
  have ih:=ZqH n k hn hk m (i+1) (by omega)
  rw [hq] at ih
  rw [Zc2.l0.succ];simp only [Zc2.l0.step]
  rw [ZaY (by omega),cond_true]
  generalize n/2^i=q at *
  ((try simp (disch:=omega) only [Zan,Zam,Zak,Zad,Zas,ZaO,Zaf,Zaz,Zaw,Zae,Option.map_some,cond_true,cond_false,Int.sub_zero,Int.toNat_natCast]);(try simp only [Zbo,ZdH,ZdK,Zat,Zbx,if_true,if_false]))
  rw [show 2*(Zow n i:Int)+(q:Int)%2=(Zow n (i+1):Int) by omega,show ((i:Int)+1)=((i+1:Nat):Int) by omega,
   show (q:Int)/2=((q/2:Nat):Int) by omega]
  exact ih
theorem ZvP (n k:Nat) (hn:n<4611686018427387904) (hk:k≤60):Zc2 (n:Int) (k:Int)=some (Zow n k:Int):=by
 unfold Zc2
 have:=ZqH n k hn hk k 0 (by omega)
 rw [ZaJ]
 simp only [Nat.pow_zero,Nat.div_one] at this
 rw [show (Zow n 0:Int)=0 from rfl,show ((0:Nat):Int)=0 from rfl] at this
 rw [this];rfl
def msb (c k:Nat):List Bool:=(ZbH c k).reverse
theorem Zqc:∀(l:List Bool),ZbH (Zcn l) l.length=l:=by
 intro l
 apply List.ext_getElem
 ·rw [Zaj]
 ·intro i h1 h2
  rw [ZiM _ _ _ h2]
  induction l generalizing i with
  | nil=>simp at h2
  | cons b l ih=>
   cases i with
   | zero=>
    simp only [Zcn,List.getElem_cons_zero]
    rw [Nat.testBit_zero]
    cases b<;>simp<;>omega
   | succ i=>
    simp only [Zcn,List.getElem_cons_succ]
    rw [Nat.testBit_succ,show (b.toNat+2*Zcn l)/2=Zcn l by cases b<;>simp<;>omega]
    exact ih i (by rw [Zaj];simpa using h2) (by simpa using h2)
theorem Zqd (n k:Nat):ZbH (Zow n k) k=msb n k:=by
 have:=Zqc (ZbH n k).reverse
 rw [List.length_reverse,Zaj] at this
 exact this
end Ev
end
section
namespace Ev
open Go
def Zdc:Str→List Bool
 | []=>[]
 | c::s=>ZbH c.toNat 8++Zdc s
theorem ZcO:∀s:Str,(Zdc s).length=8*s.length
 | []=>rfl
 | c::s=>by simp [Zdc,Zaj,ZcO s];omega
theorem Zjl:∀s t:Str,Zdc (s++t)=Zdc s++Zdc t
 | [],t=>rfl
 | c::s,t=>by simp [Zdc,Zjl s t]
theorem Zok:∀(s:Str) (n:Nat) (h:n<8*s.length),(Zdc s)[n]'(by rw [ZcO];exact h)=((s.getD (n/8) 0).toNat).testBit (n%8)
 | [],n,h=>by simp at h
 | c::s,n,h=>by
  simp only [Zdc]
  by_cases h8:n<8
  ·rw [List.getElem_append_left (by rw [Zaj];exact h8),ZiM _ _ _ h8,show n/8=0 by omega,show n%8=n by omega];rfl
  ·rw [List.getElem_append_right (by rw [Zaj];omega)]
   simp only [Zaj]
   have:=Zok s (n-8) (by simp at h;omega)
   rw [this,show n/8=(n-8)/8+1 by omega,show (n-8)%8=n%8 by omega];rfl
def Rs (s:Str) (at_:Int) (bad:Bool):Option (List Bool)→Prop
 | some l=>bad=false∧∃n:Nat,at_=(n:Int)∧n≤8*s.length∧(Zdc s).drop n=l
 | none=>bad=true∧∃n:Nat,at_=(n:Int)∧n≤8*s.length
theorem Rs.at {s:Str} {at_:Int} {bad:Bool} {m:Option (List Bool)} (h:Rs s at_ bad m):∃n:Nat,at_=(n:Int)∧n≤8*s.length:=by
 cases m with
 | none=>exact h.2
 | some l=>obtain ⟨_,n,a,b,_⟩:=h;exact ⟨n,a,b⟩
theorem Rs.fail {s:Str} {at_:Int} {bad:Bool} {m:Option (List Bool)} (h:Rs s at_ bad m):Rs s at_ true none:=⟨rfl,h.at⟩
theorem Rs.len {s:Str} {at_:Int} {bad:Bool} {l:List Bool} (h:Rs s at_ bad (some l)):at_=((8*s.length-l.length:Nat):Int)∧l.length≤8*s.length:=by
 obtain ⟨_,n,a,b,c⟩:=h
 have:=congrArg List.length c
 rw [List.length_drop,ZcO] at this
 omega
theorem Rs.start (s:Str):Rs s 0 false (some (Zdc s)):=⟨rfl,0,rfl,by omega,rfl⟩
def Znd:Option (List Bool)→Option (List Bool)
 | some (_::l)=>some l
 | _=>none
def ZwJ (s:Str) (m:Option (List Bool)) (r:Int×Str×Int×Bool):Prop:=
 r.2.1=s∧∃b:Bool,r.1=((b.toNat:Nat):Int)∧Rs s r.2.2.1 r.2.2.2 (Znd m)∧∀c l,m=some (c::l)→b=c
theorem ZrN (s:Str) (n:Nat) (bad:Bool) (hs:s.length≤1000000000) (hlt:n<8*s.length) :
  Zik s (n:Int) bad=some (((((s.getD (n/8) 0).toNat.testBit (n%8)).toNat:Nat):Int),s,((n+1:Nat):Int),bad):=by
 unfold Zik
 have hmod:((n:Int)).tmod 8=((n%8:Nat):Int):=by rw [Zaz (by omega)];omega
 have hdiv:((n:Int)).tdiv 8=((n/8:Nat):Int):=by rw [Zaw (by omega)];omega
 simp only [hmod,hdiv]
 ((try simp (disch:=omega) only [Zan,Zam,Zak,Zad,Zas,ZaO,Zaf,Zaz,Zaw,Zae,Option.map_some,cond_true,cond_false,Int.sub_zero,Int.toNat_natCast]);(try simp only [Zbo,ZdH,ZdK,Zat,Zbx,if_true,if_false]))
 rw [if_neg (by omega)]
 have hc:(s.getD (n/8) 0).toNat<256:=(s.getD (n/8) 0).toNat_lt
 have hbit:ZkF .i64 (ZmO .i64 (w64 (((s.getD (n/8) 0).toNat:Nat):Int)) ((n%8:Nat):Int)) 1=((((s.getD (n/8) 0).toNat.testBit (n%8)).toNat:Nat):Int):=by
  rw [Zaf (by omega) (by omega),Zfk _ _ (by omega),Zk2 _ (Nat.lt_of_le_of_lt (Nat.div_le_self _ _) (by omega)),ZdU]
 rw [hbit,show ((n:Int)+1)=((n+1:Nat):Int) by omega]
theorem ZjL {s:Str} {at_:Int} {bad:Bool} {m:Option (List Bool)} (hs:s.length≤1000000000) (h:Rs s at_ bad m):Ret (Zik s at_ bad) (ZwJ s m):=by
 obtain ⟨n,rfl,hn⟩:=h.at
 unfold Zik
 by_cases hlt:n<8*s.length
 ·have hb0:=ZrN s n bad hs hlt
  unfold Zik at hb0
  rw [hb0]
  refine .pure ⟨rfl,_,rfl,?_,?_⟩
  ·cases m with
   | none=>exact ⟨h.1,n+1,rfl,by omega⟩
   | some l=>
    obtain ⟨hb,n',e,_,hd⟩:=h
    have:n'=n:=by omega
    subst this
    rw [List.drop_eq_getElem_cons (by rw [ZcO];exact hlt)] at hd
    subst hd
    exact ⟨hb,n'+1,rfl,by omega,rfl⟩
  ·rintro c l rfl
   obtain ⟨hb,n',e,_,hd⟩:=h
   have:n'=n:=by omega
   subst this
   rw [List.drop_eq_getElem_cons (by rw [ZcO];exact hlt),Zok s n' hlt] at hd
   exact (List.cons.inj hd).1
 ·((try simp (disch:=omega) only [Zan,Zam,Zak,Zad,Zas,ZaO,Zaf,Zaz,Zaw,Zae,Option.map_some,cond_true,cond_false,Int.sub_zero,Int.toNat_natCast]);(try simp only [Zbo,ZdH,ZdK,Zat,Zbx,if_true,if_false]))
  rw [if_pos (by omega)]
  refine .pure ⟨rfl,false,rfl,?_,?_⟩
  ·cases m with
   | none=>exact ⟨rfl,n,rfl,hn⟩
   | some l=>
    have:=h.len
    have:l=[]:=List.length_eq_zero_iff.1 (by omega)
    subst this
    exact ⟨rfl,n,rfl,hn⟩
  ·rintro c l rfl
   have:=h.len
   simp at this;omega
theorem Zu6 (s:Str) (n:Nat) (bad:Bool) (hs:s.length≤1000000000) (hn:n≤8*s.length):ZjF s (n:Int) bad=Zik s (n:Int) bad:=by
 unfold ZjF Zik
 have hmod:((n:Int)).tmod 8=((n%8:Nat):Int):=by rw [Zaz (by omega)];omega
 have hdiv:((n:Int)).tdiv 8=((n/8:Nat):Int):=by rw [Zaw (by omega)];omega
 simp only [hmod,hdiv]
 by_cases hlt:n<8*s.length
 ·((try simp (disch:=omega) only [Zan,Zam,Zak,Zad,Zas,ZaO,Zaf,Zaz,Zaw,Zae,Option.map_some,cond_true,cond_false,Int.sub_zero,Int.toNat_natCast]);(try simp only [Zbo,ZdH,ZdK,Zat,Zbx,if_true,if_false]))
  rw [if_neg (by omega),if_neg (by omega),ZhM _ (by omega)]
  have hc:(s.getD (n/8) 0).toNat<256:=(s.getD (n/8) 0).toNat_lt
  have hp:=Nat.two_pow_pos (n%8)
  rw [Zaf (by omega) (by omega),Zfk _ _ (by omega),Zk2 _ (Nat.lt_of_le_of_lt (Nat.div_le_self _ _) (by omega))]
  simp only [Zae]
  rw [Zab _ (by
   simp only [bne_iff_ne,ne_eq];intro h0;have h0:2^(n%8)=0:=by exact_mod_cast h0
   rw [h0] at hp;exact absurd hp (by omega))]
  have hle:(s.getD (n/8) 0).toNat/2^(n%8)≤(s.getD (n/8) 0).toNat:=Nat.div_le_self _ _
  rw [Zaw (Int.natCast_nonneg _),←Int.natCast_ediv]
  generalize (s.getD (n/8) 0).toNat/2^(n%8)=q at *
  ((try simp (disch:=omega) only [Zan,Zam,Zak,Zad,Zas,ZaO,Zaf,Zaz,Zaw,Zae,Option.map_some,cond_true,cond_false,Int.sub_zero,Int.toNat_natCast]);(try simp only [Zbo,ZdH,ZdK,Zat,Zbx,if_true,if_false]))
  rfl
 ·((try simp (disch:=omega) only [Zan,Zam,Zak,Zad,Zas,ZaO,Zaf,Zaz,Zaw,Zae,Option.map_some,cond_true,cond_false,Int.sub_zero,Int.toNat_natCast]);(try simp only [Zbo,ZdH,ZdK,Zat,Zbx,if_true,if_false]))
  rw [if_pos (by omega),if_pos (by omega)]
theorem ZrJ {s:Str} {at_:Int} {bad:Bool} {m:Option (List Bool)} (hs:s.length≤1000000000) (h:Rs s at_ bad m):Ret (ZjF s at_ bad) (ZwJ s m):=by
 obtain ⟨n,rfl,hn⟩:=h.at
 rw [Zu6 s n bad hs hn];exact ZjL hs h
def ZbE (k:Nat):Option (List Bool)→Option (List Bool)
 | some l=>if k≤l.length then some (l.drop k) else none
 | none=>none
def Zpr (s:Str) (k:Nat) (m:Option (List Bool)) (r:Int×Str×Int×Bool):Prop:=
 r.2.1=s∧(∃v:Nat,r.1=(v:Int)∧v<2^k∧∀l,m=some l→k≤l.length→v=Zcn (l.take k))∧Rs s r.2.2.1 r.2.2.2 (ZbE k m)
theorem Zqi (m:Option (List Bool)):ZbE 0 m=m:=by cases m<;>simp [ZbE]
theorem Zqj (k:Nat) (m:Option (List Bool)):ZbE (k+1) m=Znd (ZbE k m):=by
 cases m with
 | none=>rfl
 | some l=>
  simp only [ZbE]
  by_cases h:k+1≤l.length
  ·rw [if_pos h,if_pos (by omega),List.drop_eq_getElem_cons (by omega:k<l.length)];rfl
  ·rw [if_neg h]
   by_cases h2:k≤l.length
   ·rw [if_pos h2,List.drop_eq_nil_of_le (by omega)];rfl
   ·rw [if_neg h2];rfl
theorem ZhX (l:List Bool) (k:Nat) (h:k<l.length):Zcn (l.take (k+1))=Zcn (l.take k)+(l[k]).toNat*2^k:=by
 rw [List.take_succ_eq_append_getElem h,Zex,List.length_take,Nat.min_eq_left (by omega)]
 simp only [Zcn,Nat.mul_zero,Nat.add_zero]
 rw [Nat.mul_comm (2^_)]
theorem Zu9 {s:Str} (hs:s.length≤1000000000) (k:Nat) (hk:k≤60) (m0:Option (List Bool)):∀(j i v:Nat) (at_:Int) (bad:Bool),i+j=k→v<2^i→(∀l,m0=some l→i≤l.length→v=Zcn (l.take i))→Rs s at_ bad (ZbE i m0)→
  Ret (ZeO.l0 (j+1) ((v:Int),(k:Int),(i:Int),s,at_,bad)) (Zpr s k m0)
 | 0,i,v,at_,bad,hi,hv,hl,h=>by
  rw [ZeO.l0.succ];simp only [ZeO.l0.step]
  rw [ZaZ (by omega)]
  have:i=k:=by omega
  subst this
  exact .pure ⟨rfl,⟨v,rfl,hv,hl⟩,h⟩
 | j+1,i,v,at_,bad,hi,hv,hl,h=>by
  rw [ZeO.l0.succ];simp only [ZeO.l0.step]
  rw [ZaY (by omega),cond_true]
  refine .bind (ZjL hs h) ?_
  rintro ⟨r,s',at',bad'⟩ ⟨rfl,b,rfl,h2,h3⟩
  dsimp only at h2 h3 ⊢
  have hb:b.toNat≤1:=by cases b<;>decide
  have hp:2^i≤2^60:=Nat.pow_le_pow_right (by omega) (by omega)
  have hle:b.toNat*2^i≤1*2^i:=Nat.mul_le_mul_right _ hb
  ((try simp (disch:=omega) only [Zan,Zam,Zak,Zad,Zas,ZaO,Zaf,Zaz,Zaw,Zae,Option.map_some,cond_true,cond_false,Int.sub_zero,Int.toNat_natCast]);(try simp only [Zbo,ZdH,ZdK,Zat,Zbx,if_true,if_false]))
  rw [ZeJ _ _ (by omega) (by omega),ZjZ _ _ (by omega) (by omega),ZlG v _ i hv,show ((i:Int)+1)=((i+1:Nat):Int) by omega]
  refine Zu9 hs k hk m0 j (i+1) _ at' bad' (by omega) (by rw [Nat.pow_succ];omega) (fun l hm hil=>?_) (by rw [Zqj];exact h2)
  subst hm
  have hlen:i<l.length:=by omega
  rw [ZhX l i hlen,←hl l rfl (by omega)]
  have:=h3 l[i] (l.drop (i+1)) (by simp only [ZbE];rw [if_pos (by omega),List.drop_eq_getElem_cons hlen])
  rw [this]
theorem ZeB {s:Str} {at_:Int} {bad:Bool} {m:Option (List Bool)} (hs:s.length≤1000000000) (k:Nat) (hk:k≤60) (h:Rs s at_ bad m):Ret (ZeO (k:Int) s at_ bad) (Zpr s k m):=by
 unfold ZeO
 rw [ZaJ]
 refine .bind (Zu9 hs k hk m k 0 0 at_ bad (by omega) (by simp) (fun l _ _=>by simp [Zcn]) (by rw [Zqi];exact h)) ?_
 rintro ⟨r,s',at',bad'⟩ hr
 exact .pure hr
theorem Zu5 {s:Str} (hs:s.length≤1000000000) (k:Nat) (hk:k≤60) (m0:Option (List Bool)):∀(j i v:Nat) (at_:Int) (bad:Bool),i+j=k→v<2^i→(∀l,m0=some l→i≤l.length→v=Zcn (l.take i))→Rs s at_ bad (ZbE i m0)→
  Ret (ZeY.l0 (j+1) ((k:Int),(v:Int),(i:Int),s,at_,bad)) (Zpr s k m0)
 | 0,i,v,at_,bad,hi,hv,hl,h=>by
  rw [ZeY.l0.succ];simp only [ZeY.l0.step]
  rw [ZaZ (by omega)]
  have:i=k:=by omega
  subst this
  exact .pure ⟨rfl,⟨v,rfl,hv,hl⟩,h⟩
 | j+1,i,v,at_,bad,hi,hv,hl,h=>by
  rw [ZeY.l0.succ];simp only [ZeY.l0.step]
  rw [ZaY (by omega),cond_true]
  refine .bind (ZrJ hs h) ?_
  rintro ⟨r,s',at',bad'⟩ ⟨rfl,b,rfl,h2,h3⟩
  dsimp only at h2 h3 ⊢
  have hb:b.toNat≤1:=by cases b<;>decide
  have hp:2^i≤2^60:=Nat.pow_le_pow_right (by omega) (by omega)
  have hle:b.toNat*2^i≤1*2^i:=Nat.mul_le_mul_right _ hb
  rw [ZhM i (by omega)]
  simp only [Zae]
  rw [←Int.natCast_mul]
  ((try simp (disch:=omega) only [Zan,Zam,Zak,Zad,Zas,ZaO,Zaf,Zaz,Zaw,Zae,Option.map_some,cond_true,cond_false,Int.sub_zero,Int.toNat_natCast]);(try simp only [Zbo,ZdH,ZdK,Zat,Zbx,if_true,if_false]))
  rw [←Int.natCast_add,show ((i:Int)+1)=((i+1:Nat):Int) by omega]
  refine Zu5 hs k hk m0 j (i+1) _ at' bad' (by omega) (by rw [Nat.pow_succ];omega) (fun l hm hil=>?_) (by rw [Zqj];exact h2)
  subst hm
  have hlen:i<l.length:=by omega
  rw [ZhX l i hlen,←hl l rfl (by omega)]
  have:=h3 l[i] (l.drop (i+1)) (by simp only [ZbE];rw [if_pos (by omega),List.drop_eq_getElem_cons hlen])
  rw [this]
theorem Zeb {s:Str} {at_:Int} {bad:Bool} {m:Option (List Bool)} (hs:s.length≤1000000000) (k:Nat) (hk:k≤60) (h:Rs s at_ bad m):Ret (ZeY (k:Int) s at_ bad) (Zpr s k m):=by
 unfold ZeY
 rw [ZaJ]
 refine .bind (Zu5 hs k hk m k 0 0 at_ bad (by omega) (by simp) (fun l _ _=>by simp [Zcn]) (by rw [Zqi];exact h)) ?_
 rintro ⟨r,s',at',bad'⟩ hr
 exact .pure hr
def ZdN:Option (List Bool)→Option (List Bool)
 | some l=>if Zcn (l.take (l.length%8))=0 then some (l.drop (l.length%8)) else none
 | none=>none
theorem ZhL (b:Bool) (l:List Bool) (h:(l.length+1)%8≠0):ZdN (some (b::l))=if b then none else ZdN (some l):=by
 have e:(l.length+1)%8=l.length%8+1:=by omega
 simp only [ZdN,List.length_cons,e,List.take_succ_cons,List.drop_succ_cons,Zcn]
 cases b
 ·by_cases h0:Zcn (List.take (l.length%8) l)=0
  ·simp [h0]
  ·simp [h0];omega
 ·simp
theorem ZsF {s:Str} (hs:s.length≤1000000000):∀(j:Nat) (at_:Int) (bad:Bool) (m:Option (List Bool)),Rs s at_ bad m→(8-at_.toNat%8)%8<j→
  Ret (Zd7.l0 j (s,at_,bad)) fun r=>r.1=s∧Rs s r.2.1 r.2.2 (ZdN m)
 | 0,_,_,_,_,h=>absurd h (by omega)
 | j+1,at_,bad,m,h,hj=>by
  obtain ⟨n,rfl,hn⟩:=h.at
  rw [Zd7.l0.succ];simp only [Zd7.l0.step]
  have hmod:((n:Int)).tmod 8=((n%8:Nat):Int):=by rw [Zaz (by omega)];omega
  rw [hmod]
  ((try simp (disch:=omega) only [Zan,Zam,Zak,Zad,Zas,ZaO,Zaf,Zaz,Zaw,Zae,Option.map_some,cond_true,cond_false,Int.sub_zero,Int.toNat_natCast]);(try simp only [Zbo,ZdH,ZdK,Zat,Zbx,if_true,if_false]))
  refine .ite (fun h0=>.pure ⟨rfl,?_⟩) fun h0=>?_
  ·cases m with
   | none=>exact h
   | some l=>
    have hl:=h.len
    have:l.length%8=0:=by omega
    simp only [ZdN,this,List.take_zero,List.drop_zero,Zcn,if_true];exact h
  ·have hlt:n<8*s.length:=by omega
   have hst:=ZjL hs h
   rw [ZrN s n bad hs hlt] at hst ⊢
   obtain ⟨r0,hr0,hst⟩:=hst
   cases hr0
   obtain ⟨_,b,hb,h2,h3⟩:=hst
   dsimp only at hb h2 h3
   have hbb:(s.getD (n/8) 0).toNat.testBit (n%8)=b:=by
    generalize (s.getD (n/8) 0).toNat.testBit (n%8)=c at hb
    revert hb;cases b<;>cases c<;>simp
   rw [hbb]
   simp only [Zae]
   have fin:∀bad2,Rs s ((n+1:Nat):Int) bad2 (match m with
     | some (c::l)=>if b then none else some l
     | _=>none)→Ret (Zd7.l0 j (s,((n+1:Nat):Int),bad2)) fun r=>r.1=s∧Rs s r.2.1 r.2.2 (ZdN m):=fun bad2 h4=>by
    refine (ZsF hs j _ bad2 _ h4 (by omega)).mono fun r ⟨e1,e2⟩=>⟨e1,?_⟩
    cases m with
    | none=>exact e2
    | some l=>
     cases l with
     | nil=>have:=h.len;simp at this;omega
     | cons c l=>
      have hl:=h.len
      rw [ZhL c l (by simp at hl;omega),←h3 c l rfl]
      cases b<;>exact e2
   ((try simp (disch:=omega) only [Zan,Zam,Zak,Zad,Zas,ZaO,Zaf,Zaz,Zaw,Zae,Option.map_some,cond_true,cond_false,Int.sub_zero,Int.toNat_natCast]);(try simp only [Zbo,ZdH,ZdK,Zat,Zbx,if_true,if_false]))
   refine .ite (fun hb0=>fin bad ?_) fun hb0=>fin true ?_
   ·have:b=false:=by cases b<;>simp at hb0 ⊢
    subst this
    cases m with
    | none=>exact h2
    | some l=>cases l<;>exact h2
   ·have:b=true:=by cases b<;>simp at hb0 ⊢
    subst this
    cases m with
    | none=>exact h2.fail
    | some l=>cases l<;>exact h2.fail
theorem ZsE {s:Str} {at_:Int} {bad:Bool} {m:Option (List Bool)} (hs:s.length≤1000000000) (h:Rs s at_ bad m):Ret (Zd7 s at_ bad) fun r=>r.1=s∧Rs s r.2.1 r.2.2 (ZdN m):=by
 unfold Zd7
 refine .bind (ZsF hs 9 at_ bad m h (by omega)) ?_
 rintro ⟨s',a,b⟩ hr
 exact .pure hr
theorem ZpQ {s:Str} (hs:s.length≤1000000000):∀(j v:Nat) (at_:Int) (bad:Bool) (m:Option (List Bool)),Rs s at_ bad m→(8-at_.toNat%8)%8<j→v≤100-8*((8-at_.toNat%8)%8)→
  Ret (ZcI.l0 j ((v:Int),s,at_,bad)) fun r=>r.2.1=s∧∃q:Nat,r.1=(q:Int)∧v≤q∧((v=q→Rs s r.2.2.1 r.2.2.2 (ZdN m))∧(v≠q→ZdN m=none∧∃m',Rs s r.2.2.1 r.2.2.2 m'))
 | 0,_,_,_,_,_,h,_=>absurd h (by omega)
 | j+1,v,at_,bad,m,h,hj,hv=>by
  obtain ⟨n,rfl,hn⟩:=h.at
  rw [ZcI.l0.succ];simp only [ZcI.l0.step]
  have hmod:((n:Int)).tmod 8=((n%8:Nat):Int):=by rw [Zaz (by omega)];omega
  rw [hmod]
  ((try simp (disch:=omega) only [Zan,Zam,Zak,Zad,Zas,ZaO,Zaf,Zaz,Zaw,Zae,Option.map_some,cond_true,cond_false,Int.sub_zero,Int.toNat_natCast]);(try simp only [Zbo,ZdH,ZdK,Zat,Zbx,if_true,if_false]))
  refine .ite (fun h0=>.pure ⟨rfl,v,rfl,Nat.le_refl _,fun _=>?_,fun h=>absurd rfl h⟩) fun h0=>?_
  ·cases m with
   | none=>exact h
   | some l=>
    have hl:=h.len
    have:l.length%8=0:=by omega
    simp only [ZdN,this,List.take_zero,List.drop_zero,Zcn,if_true];exact h
  ·have hlt:n<8*s.length:=by omega
   have hst:=ZjL hs h
   rw [Zu6 s n bad hs hn]
   rw [ZrN s n bad hs hlt] at hst ⊢
   obtain ⟨r0,hr0,hst⟩:=hst
   cases hr0
   obtain ⟨_,b,hb,h2,h3⟩:=hst
   dsimp only at hb h2 h3
   have hbb:(s.getD (n/8) 0).toNat.testBit (n%8)=b:=by
    generalize (s.getD (n/8) 0).toNat.testBit (n%8)=c at hb
    revert hb;cases b<;>cases c<;>simp
   rw [hbb]
   simp only [Zae]
   have hb1:b.toNat≤1:=by cases b<;>decide
   ((try simp (disch:=omega) only [Zan,Zam,Zak,Zad,Zas,ZaO,Zaf,Zaz,Zaw,Zae,Option.map_some,cond_true,cond_false,Int.sub_zero,Int.toNat_natCast]);(try simp only [Zbo,ZdH,ZdK,Zat,Zbx,if_true,if_false]))
   rw [←Int.natCast_add]
   refine (ZpQ hs j (v+b.toNat) _ bad _ h2 (by omega) (by omega)).mono fun r ⟨e1,q,e2,e3,e4,e5⟩=>⟨e1,q,e2,by omega,fun hq=>?_,fun hq=>?_⟩
   ·have:b=false:=by cases b<;>simp at e3 ⊢<;>omega
    subst this
    have e4:=e4 (by simp;omega)
    cases m with
    | none=>exact e4
    | some l=>
     cases l with
     | nil=>have:=h.len;simp at this;omega
     | cons c l=>
      have hl:=h.len
      rw [ZhL c l (by simp at hl;omega),←h3 c l rfl]
      exact e4
   ·by_cases hq2:v+b.toNat=q
    ·refine ⟨?_,_,e4 hq2⟩
     have:b=true:=by cases b<;>simp at hq2 ⊢;omega
     subst this
     cases m with
     | none=>rfl
     | some l=>
      cases l with
      | nil=>have:=h.len;simp at this;omega
      | cons c l=>
       have hl:=h.len
       rw [ZhL c l (by simp at hl;omega),←h3 c l rfl];rfl
    ·obtain ⟨f1,f2⟩:=e5 hq2
     refine ⟨?_,f2⟩
     cases m with
     | none=>rfl
     | some l=>
      cases l with
      | nil=>have:=h.len;simp at this;omega
      | cons c l=>
       have hl:=h.len
       rw [ZhL c l (by simp at hl;omega)]
       cases c
       ·exact f1
       ·rfl
theorem Zlu {s:Str} {at_:Int} {bad:Bool} {m:Option (List Bool)} (hs:s.length≤1000000000) (h:Rs s at_ bad m):Ret (ZcI s at_ bad) fun r=>r.2.1=s∧(r.1=true→Rs s r.2.2.1 r.2.2.2 (ZdN m))∧(r.1=false→ZdN m=none∧∃m',Rs s r.2.2.1 r.2.2.2 m'):=by
 unfold ZcI
 refine .bind (ZpQ hs 9 0 at_ bad m h (by omega) (by omega)) ?_
 rintro ⟨v,s',a,b⟩ ⟨e1,q,e2,e3,e4,e5⟩
 dsimp only at e1 e2 e3 e4 e5 ⊢
 subst e2
 refine .pure ⟨e1,fun hq=>e4 ?_,fun hq=>e5 ?_⟩
 ·dsimp only at hq;rw [beq_iff_eq] at hq;omega
 ·dsimp only at hq;rw [beq_eq_false_iff_ne] at hq;omega
end Ev
end
section
namespace Ev
open Go
theorem ZhG (n:Int):IntKind.wrap .u32 n=n%4294967296:=by simp [IntKind.wrap,IntKind.bits,IntKind.signed]
theorem Zfj (x y:Nat) (hx:x<4294967296) (hy:y<4294967296):Zk1 .u32 (x:Int) (y:Int)=((x^^^y:Nat):Int):=by
 have hz:x^^^y<2^32:=Nat.xor_lt_two_pow (by omega) (by omega)
 unfold Zk1
 have e:(BitVec.ofInt IntKind.u32.bits (x:Int)^^^BitVec.ofInt IntKind.u32.bits (y:Int)).toNat=x^^^y:=by
  simp only [BitVec.ofInt_natCast,BitVec.toNat_xor,BitVec.toNat_ofNat,show IntKind.u32.bits=32 from rfl]
  rw [Nat.mod_eq_of_lt (by omega),Nat.mod_eq_of_lt (by omega)]
 rw [e,ZhG];omega
theorem ZqP (x:Nat) (hx:x<4294967296):ZkF .u32 (x:Int) 1=((x%2:Nat):Int):=by
 have hz:x &&& 1<2^32:=Nat.and_lt_two_pow _ (by omega)
 unfold ZkF
 have e:(BitVec.ofInt IntKind.u32.bits (x:Int) &&& BitVec.ofInt IntKind.u32.bits ((1:Nat):Int)).toNat=x &&& 1:=by
  simp only [BitVec.ofInt_natCast,BitVec.toNat_and,BitVec.toNat_ofNat,show IntKind.u32.bits=32 from rfl]
  rw [Nat.mod_eq_of_lt (by omega),Nat.mod_eq_of_lt (by omega)]
 rw [show (1:Int)=((1:Nat):Int) from rfl,e,ZhG,Nat.and_one_is_mod];omega
theorem ZqO (x:Nat):ZmO .u32 (x:Int) 1=((x/2:Nat):Int):=by
 unfold ZmO
 rw [show min (1:Int).toNat IntKind.u32.bits=1 from rfl,show ((2:Int)^1)=2 by rfl,Int.fdiv_eq_ediv_of_nonneg _ (by omega)]
 omega
def Zhz (c:Nat):Nat:=if c%2=1 then c/2^^^3988292384 else c/2
def ZhQ:Nat→Nat→Nat
 | 0,c=>c
 | n+1,c=>ZhQ n (Zhz c)
def Zgf (c:Nat) (b:UInt8):Nat:=ZhQ 8 (c^^^b.toNat)
def Zpu (text:Str):Nat:=text.foldl Zgf 4294967295^^^4294967295
theorem Zkb {c:Nat} (h:c<4294967296):Zhz c<4294967296:=by
 unfold Zhz
 split
 ·exact Nat.xor_lt_two_pow (n:=32) (by omega) (by omega)
 ·omega
theorem Zmw:∀{n c:Nat},c<4294967296→ZhQ n c<4294967296
 | 0,c,h=>h
 | n+1,c,h=>Zmw (n:=n) (Zkb h)
theorem Zkc {c:Nat} {b:UInt8} (h:c<4294967296):Zgf c b<4294967296:=
 Zmw (Nat.xor_lt_two_pow (n:=32) (by omega) (by have:=b.toNat_lt;omega))
theorem ZhR:∀(text:Str) {c:Nat},c<4294967296→text.foldl Zgf c<4294967296
 | [],_,h=>h
 | b::t,_,h=>ZhR t (Zkc h)
theorem Ziv (text:Str):Zpu text<4294967296:=Nat.xor_lt_two_pow (n:=32) (ZhR text (by omega)) (by omega)
theorem ZkJ (text:Str) (k:Int):∀(j i c:Nat),i+j=8→c<4294967296→ZaD.l0 (j+1) ((c:Int),text,k,(i:Int))=some (((ZhQ j c:Nat):Int),text,k)
 | 0,i,c,hi,hc=>by
  rw [ZaD.l0.succ];simp only [ZaD.l0.step]
  ((try simp (disch:=omega) only [Zan,Zam,Zak,Zad,Zas,ZaO,Zaf,Zaz,Zaw,Zae,Option.map_some,cond_true,cond_false,Int.sub_zero,Int.toNat_natCast]);(try simp only [Zbo,ZdH,ZdK,Zat,Zbx,if_true,if_false]))
  rw [if_neg (by omega)];rfl
 | j+1,i,c,hi,hc=>by
  have ih:=ZkJ text k j (i+1) (Zhz c) (by omega) (Zkb hc)
  rw [ZaD.l0.succ];simp only [ZaD.l0.step]
  ((try simp (disch:=omega) only [Zan,Zam,Zak,Zad,Zas,ZaO,Zaf,Zaz,Zaw,Zae,Option.map_some,cond_true,cond_false,Int.sub_zero,Int.toNat_natCast]);(try simp only [Zbo,ZdH,ZdK,Zat,Zbx,if_true,if_false]))
  rw [if_pos (by omega),ZqO,ZqP c hc]
  have e:Zk1 .u32 ((c/2:Nat):Int) (IntKind.wrap .u32 (3988292384*((c%2:Nat):Int)))=((Zhz c:Nat):Int):=by
   rw [ZhG]
   unfold Zhz
   split
   ·rename_i h1
    rw [h1,show ((3988292384:Int)*((1:Nat):Int)%4294967296)=((3988292384:Nat):Int) by rfl,Zfj _ _ (by omega) (by omega)]
   ·rename_i h1
    have:c%2=0:=by omega
    rw [this,show ((3988292384:Int)*((0:Nat):Int)%4294967296)=((0:Nat):Int) by rfl,Zfj _ _ (by omega) (by omega),Nat.xor_zero]
  rw [e,show ((i:Int)+1)=((i+1:Nat):Int) by omega,ih];rfl
theorem ZkI (text:Str) (hs:text.length≤1000000000):∀(j i c:Nat),i+j=text.length→c<4294967296→ZaD.l1 (j+1) ((c:Int),text,(i:Int))=some (((text.drop i).foldl Zgf c:Nat):Int)
 | 0,i,c,hi,hc=>by
  rw [ZaD.l1.succ];simp only [ZaD.l1.step]
  ((try simp (disch:=omega) only [Zan,Zam,Zak,Zad,Zas,ZaO,Zaf,Zaz,Zaw,Zae,Option.map_some,cond_true,cond_false,Int.sub_zero,Int.toNat_natCast]);(try simp only [Zbo,ZdH,ZdK,Zat,Zbx,if_true,if_false]))
  rw [if_neg (by omega),List.drop_eq_nil_of_le (by omega)];rfl
 | j+1,i,c,hi,hc=>by
  have hlt:i<text.length:=by omega
  rw [ZaD.l1.succ];simp only [ZaD.l1.step]
  ((try simp (disch:=omega) only [Zan,Zam,Zak,Zad,Zas,ZaO,Zaf,Zaz,Zaw,Zae,Option.map_some,cond_true,cond_false,Int.sub_zero,Int.toNat_natCast]);(try simp only [Zbo,ZdH,ZdK,Zat,Zbx,if_true,if_false]))
  rw [if_pos (by omega)]
  have hb:(text.getD i 0).toNat<256:=(text.getD i 0).toNat_lt
  rw [ZhG,show (((text.getD i 0).toNat:Int)%4294967296)=(((text.getD i 0).toNat:Nat):Int) by omega,Zfj _ _ hc (by omega)]
  have h0:=ZkJ text (i:Int) 8 0 (c^^^(text.getD i 0).toNat) (by omega) (Nat.xor_lt_two_pow (n:=32) (by omega) (by omega))
  rw [show ((0:Nat):Int)=0 from rfl] at h0
  rw [show ((8:Int)).toNat+1=8+1 from rfl,h0]
  simp only [Zae]
  ((try simp (disch:=omega) only [Zan,Zam,Zak,Zad,Zas,ZaO,Zaf,Zaz,Zaw,Zae,Option.map_some,cond_true,cond_false,Int.sub_zero,Int.toNat_natCast]);(try simp only [Zbo,ZdH,ZdK,Zat,Zbx,if_true,if_false]))
  rw [show ((i:Int)+1)=((i+1:Nat):Int) by omega]
  have:=ZkI text hs j (i+1) (Zgf c (text.getD i 0)) (by omega) (Zkc hc)
  unfold Zgf at this
  rw [this,List.drop_eq_getElem_cons hlt,Zal hlt];rfl
theorem crc_eq (text:Str) (hs:text.length≤1000000000):crc text=some ((Zpu text:Nat):Int):=by
 unfold crc ZaD
 rw [ZaJ]
 have e:Zk1 .u32 (IntKind.max .u32) 0=((4294967295:Nat):Int):=Zfj 4294967295 0 (by omega) (by omega)
 have h:=ZkI text hs text.length 0 4294967295 (by omega) (by omega)
 rw [show ((0:Nat):Int)=0 from rfl] at h
 rw [e,h]
 simp only [Zae,List.drop_zero]
 have hl:=ZhR text (c:=4294967295) (by omega)
 have e2:Zk1 .u32 (IntKind.max .u32) ((text.foldl Zgf 4294967295:Nat):Int)=((Zpu text:Nat):Int):=by
  rw [show IntKind.max .u32=((4294967295:Nat):Int) from rfl,Zfj _ _ (by omega) hl,Nat.xor_comm];rfl
 rw [e2]
 have:=Ziv text
 ((try simp (disch:=omega) only [Zan,Zam,Zak,Zad,Zas,ZaO,Zaf,Zaz,Zaw,Zae,Option.map_some,cond_true,cond_false,Int.sub_zero,Int.toNat_natCast]);(try simp only [Zbo,ZdH,ZdK,Zat,Zbx,if_true,if_false]))
theorem ZqF:∀(j i c:Nat),i+j=8→c<4294967296→Zc1.l0 (j+1) ((c:Int),(i:Int))=some ((ZhQ j c:Nat):Int)
 | 0,i,c,hi,hc=>by
  rw [Zc1.l0.succ];simp only [Zc1.l0.step]
  ((try simp (disch:=omega) only [Zan,Zam,Zak,Zad,Zas,ZaO,Zaf,Zaz,Zaw,Zae,Option.map_some,cond_true,cond_false,Int.sub_zero,Int.toNat_natCast]);(try simp only [Zbo,ZdH,ZdK,Zat,Zbx,if_true,if_false]))
  rw [if_neg (by omega)];rfl
 | j+1,i,c,hi,hc=>by
  have ih:=ZqF j (i+1) (Zhz c) (by omega) (Zkb hc)
  rw [Zc1.l0.succ];simp only [Zc1.l0.step]
  ((try simp (disch:=omega) only [Zan,Zam,Zak,Zad,Zas,ZaO,Zaf,Zaz,Zaw,Zae,Option.map_some,cond_true,cond_false,Int.sub_zero,Int.toNat_natCast]);(try simp only [Zbo,ZdH,ZdK,Zat,Zbx,if_true,if_false]))
  rw [if_pos (by omega),show ((i:Int)+1)=((i+1:Nat):Int) by omega,ZhG,show ((c:Int)/2%4294967296)=((c/2:Nat):Int) by omega]
  unfold ZhQ
  rw [←ih]
  unfold Zhz
  by_cases h:c%2=1
  ·have:=Zfj (c/2) 3988292384 (by omega) (by omega)
   rw [show ((3988292384:Nat):Int)=3988292384 from rfl] at this
   rw [if_pos (by omega),this,if_pos h]
  ·rw [if_neg (by omega),if_neg h]
theorem ZvO (c:Nat) (b:UInt8) (hc:c<4294967296):Zc1 (c:Int) ((b.toNat:Nat):Int)=some ((Zgf c b:Nat):Int):=by
 unfold Zc1
 have hb:b.toNat<256:=b.toNat_lt
 have h0:=ZqF 8 0 (c^^^b.toNat) (by omega) (Nat.xor_lt_two_pow (n:=32) (by omega) (by omega))
 rw [ZhG,show (((b.toNat:Nat):Int)%4294967296)=((b.toNat:Nat):Int) by omega,Zfj _ _ hc (by omega)]
 rw [show ((0:Nat):Int)=0 from rfl] at h0
 rw [show ((8:Int)-0).toNat+1=8+1 from rfl,h0];rfl
theorem ZqG (text:Str) (hs:text.length≤1000000000):∀(j i c:Nat),i+j=text.length→c<4294967296→Zc8.l0 (j+1) (text,(c:Int),(i:Int))=some (((text.drop i).foldl Zgf c:Nat):Int)
 | 0,i,c,hi,hc=>by
  rw [Zc8.l0.succ];simp only [Zc8.l0.step]
  ((try simp (disch:=omega) only [Zan,Zam,Zak,Zad,Zas,ZaO,Zaf,Zaz,Zaw,Zae,Option.map_some,cond_true,cond_false,Int.sub_zero,Int.toNat_natCast]);(try simp only [Zbo,ZdH,ZdK,Zat,Zbx,if_true,if_false]))
  rw [if_neg (by omega),List.drop_eq_nil_of_le (by omega)];rfl
 | j+1,i,c,hi,hc=>by
  have hlt:i<text.length:=by omega
  rw [Zc8.l0.succ];simp only [Zc8.l0.step]
  ((try simp (disch:=omega) only [Zan,Zam,Zak,Zad,Zas,ZaO,Zaf,Zaz,Zaw,Zae,Option.map_some,cond_true,cond_false,Int.sub_zero,Int.toNat_natCast]);(try simp only [Zbo,ZdH,ZdK,Zat,Zbx,if_true,if_false]))
  rw [if_pos (by omega),ZvO c _ hc]
  ((try simp (disch:=omega) only [Zan,Zam,Zak,Zad,Zas,ZaO,Zaf,Zaz,Zaw,Zae,Option.map_some,cond_true,cond_false,Int.sub_zero,Int.toNat_natCast]);(try simp only [Zbo,ZdH,ZdK,Zat,Zbx,if_true,if_false]))
  rw [show ((i:Int)+1)=((i+1:Nat):Int) by omega,ZqG text hs j (i+1) _ (by omega) (Zkc hc),List.drop_eq_getElem_cons hlt,Zal hlt];rfl
theorem Znl (text:Str) (hs:text.length≤1000000000):Zdo text=some ((Zpu text:Nat):Int):=by
 unfold Zdo Zc8
 rw [ZaJ]
 have e:Zk1 .u32 0 4294967295=((4294967295:Nat):Int):=Zfj 0 4294967295 (by omega) (by omega)
 have h:=ZqG text hs text.length 0 4294967295 (by omega) (by omega)
 rw [show ((0:Nat):Int)=0 from rfl] at h
 rw [e,h]
 simp only [Zae,List.drop_zero]
 have hl:=ZhR text (c:=4294967295) (by omega)
 have e2:Zk1 .u32 ((text.foldl Zgf 4294967295:Nat):Int) 4294967295=((Zpu text:Nat):Int):=Zfj _ 4294967295 hl (by omega)
 rw [e2]
 have:=Ziv text
 ((try simp (disch:=omega) only [Zan,Zam,Zak,Zad,Zas,ZaO,Zaf,Zaz,Zaw,Zae,Option.map_some,cond_true,cond_false,Int.sub_zero,Int.toNat_natCast]);(try simp only [Zbo,ZdH,ZdK,Zat,Zbx,if_true,if_false]))
end Ev
end
section
namespace Ev
open Go
def zs (ns:List Nat):List Int:=ns.map fun (n:Nat)=>(n:Int)
theorem Zag (ns:List Nat):(zs ns).length=ns.length:=by simp [zs]
theorem ZaE (ns:List Nat) (i:Nat):(zs ns).getD i 0=((ns.getD i 0:Nat):Int):=by
 simp only [zs,List.getD_eq_getElem?_getD,List.getElem?_map]
 cases ns[i]?<;>rfl
theorem Zfq (a b:List Nat):zs (a++b)=zs a++zs b:=by simp [zs]
theorem Zfp (a:List Nat) (i n:Nat):(zs a).set i (n:Int)=zs (a.set i n):=by simp [zs,List.map_set]
theorem ZfN (k n:Nat):List.replicate k (n:Int)=zs (List.replicate k n):=by simp [zs]
def Zbs:List Nat→Nat
 | []=>0
 | n::r=>(if 0<n then 2^(15-n) else 0)+Zbs r
def ZeM:List Nat→Nat
 | []=>0
 | n::r=>(if 0<n then 1 else 0)+ZeM r
theorem Zot:∀ns:List Nat,ZeM ns≤ns.length
 | []=>Nat.le_refl _
 | n::r=>by
  have:=Zot r
  simp only [ZeM,List.length_cons]
  split<;>omega
def ZcZ (ns:List Nat):Bool:=decide (ns.length≤300)&&(ns.all (fun n=>decide (n≤15))&&(decide (Zbs ns=32768)||decide (ZeM ns=1∧Zbs ns=16384)))
def Zgb (a:Nat):List Nat→Nat
 | []=>a
 | n::r=>Zgb (if 0<n then n else a) r
theorem ZlO (ns:List Nat) (hn:ns.length≤300):∀(j i sum many last:Nat),i+j=ns.length→sum≤32768*i→many≤i→
  Zb1.l0 (j+1) ((sum:Int),(many:Int),(last:Int),zs ns,(ns.length:Int),(i:Int)) =
   some (if (ns.drop i).all (fun n=>decide (n≤15)) then .inl (((sum+Zbs (ns.drop i):Nat):Int),((many+ZeM (ns.drop i):Nat):Int),((Zgb last (ns.drop i):Nat):Int)) else .inr false)
 | 0,i,sum,many,last,hi,h1,h2=>by
  rw [Zb1.l0.succ];simp only [Zb1.l0.step]
  rw [ZaZ (by omega),List.drop_eq_nil_of_le (by omega)];rfl
 | j+1,i,sum,many,last,hi,h1,h2=>by
  have hlt:i<ns.length:=by omega
  have hd:ns.drop i=ns[i]::ns.drop (i+1):=List.drop_eq_getElem_cons hlt
  have hg:ns.getD i 0=ns[i]:=Zal hlt
  rw [Zb1.l0.succ];simp only [Zb1.l0.step]
  rw [ZaY hlt,cond_true,Zab _ (by rw [Zag];exact Zax hlt),Int.toNat_natCast,ZaE,hg,ZdI,hd,List.all_cons]
  simp only [Zae]
  by_cases h15:ns[i]≤15
  ·have e1:decide ((0:Int)≤(ns[i]:Int)∧(ns[i]:Int)≤15)=true:=by simp;omega
   rw [e1,decide_eq_true h15,Bool.true_and]
   simp only [Bool.not_true,cond_false,Zbo]
   by_cases h0:0<ns[i]
   ·have hp:2^(15-ns[i])≤2^15:=Nat.pow_le_pow_right (by omega) (by omega)
    have hp0:0<2^(15-ns[i]):=Nat.two_pow_pos _
    have hsh:=ZeJ 1 (15-ns[i]) (by omega) (by omega)
    rw [Nat.one_mul,show ((1:Nat):Int)=1 from rfl,show ((15-ns[i]:Nat):Int)=15-(ns[i]:Int) by omega] at hsh
    rw [if_pos (by omega)]
    ((try simp (disch:=omega) only [Zan,Zam,Zak,Zad,Zas,ZaO,Zaf,Zaz,Zaw,Zae,Option.map_some,cond_true,cond_false,Int.sub_zero,Int.toNat_natCast,hsh]);(try simp only [Zbo,ZdH,ZdK,Zat,Zbx,if_true,if_false,hsh]))
    rw [show (sum:Int)+((2^(15-ns[i]):Nat):Int)=((sum+2^(15-ns[i]):Nat):Int) by omega,show (many:Int)+1=((many+1:Nat):Int) by omega,show (i:Int)+1=((i+1:Nat):Int) by omega,
     ZlO ns hn j (i+1) _ _ _ (by omega) (by omega) (by omega)]
    simp only [Zbs,ZeM,Zgb,if_pos h0,Nat.add_assoc]
   ·rw [if_neg (by omega)]
    ((try simp (disch:=omega) only [Zan,Zam,Zak,Zad,Zas,ZaO,Zaf,Zaz,Zaw,Zae,Option.map_some,cond_true,cond_false,Int.sub_zero,Int.toNat_natCast]);(try simp only [Zbo,ZdH,ZdK,Zat,Zbx,if_true,if_false]))
    rw [show (i:Int)+1=((i+1:Nat):Int) by omega,ZlO ns hn j (i+1) _ _ _ (by omega) (by omega) (by omega)]
    simp only [Zbs,ZeM,Zgb,if_neg h0,Nat.zero_add]
  ·have e1:decide ((0:Int)≤(ns[i]:Int)∧(ns[i]:Int)≤15)=false:=by simp;omega
   rw [e1,decide_eq_false h15]
   rfl
theorem Zqv:∀{ns:List Nat} {a:Nat},ZeM ns=1→Zbs ns=2^(15-Zgb a ns)∧0<Zgb a ns
 | [],a,h=>by simp [ZeM] at h
 | n::r,a,h=>by
  simp only [ZeM] at h
  have z:∀r (a:Nat),ZeM r=0→Zbs r=0∧Zgb a r=a:=fun r=>by
   induction r with
   | nil=>intro _ _;exact ⟨rfl,rfl⟩
   | cons m r ih=>
    intro a h
    simp only [ZeM] at h
    by_cases hm:0<m
    ·rw [if_pos hm] at h;omega
    ·rw [if_neg hm] at h;simp only [Zbs,Zgb];rw [if_neg hm,if_neg hm,(ih a (by omega)).1];exact ⟨rfl,(ih a (by omega)).2⟩
  by_cases hn:0<n
  ·rw [if_pos hn] at h
   have h0:ZeM r=0:=by omega
   simp only [Zbs,Zgb,if_pos hn,(z r n h0).1,(z r n h0).2]
   exact ⟨rfl,hn⟩
  ·rw [if_neg hn] at h
   have:=Zqv (ns:=r) (a:=a) (by omega)
   simp only [Zbs,Zgb,if_neg hn,Nat.zero_add]
   exact this
theorem ZlP (ns:List Nat):Zb1 (zs ns)=some (ZcZ ns):=by
 unfold Zb1 ZcZ
 rw [Zag]
 ((try simp (disch:=omega) only [Zan,Zam,Zak,Zad,Zas,ZaO,Zaf,Zaz,Zaw,Zae,Option.map_some,cond_true,cond_false,Int.sub_zero,Int.toNat_natCast]);(try simp only [Zbo,ZdH,ZdK,Zat,Zbx,if_true,if_false]))
 by_cases hn:ns.length≤300
 ·rw [if_neg (by omega)]
  have h:=ZlO ns hn ns.length 0 0 0 0 (by omega) (by omega) (by omega)
  rw [show ((0:Nat):Int)=0 from rfl,List.drop_zero] at h
  rw [h,decide_eq_true hn]
  cases hall:ns.all (fun n=>decide (n≤15)) with
  | false=>rfl
  | true=>
   simp only [if_true,Zae,Bool.true_and,Nat.zero_add,ZdH]
   by_cases hk:Zbs ns=32768
   ·rw [if_pos (by omega),decide_eq_true hk];rfl
   ·rw [if_neg (by omega),decide_eq_false hk]
    by_cases hu:ZeM ns=1
    ·rw [if_pos (by omega)]
     obtain ⟨e1,e2⟩:=Zqv (a:=0) hu
     simp only [Zae,Bool.false_or]
     have hl15:Zgb 0 ns≤15∨15<Zgb 0 ns:=by omega
     have:((((Zgb 0 ns:Nat):Int))==1)=decide (ZeM ns=1∧Zbs ns=16384):=by
      rw [Bool.eq_iff_iff,beq_iff_eq,decide_eq_true_eq]
      constructor
      ·intro h1
       have h1:Zgb 0 ns=1:=by omega
       exact ⟨hu,by rw [e1,h1]⟩
      ·rintro ⟨_,h2⟩
       rw [h2] at e1
       have hlt:Zgb 0 ns<15:=by
        rcases Nat.lt_or_ge (Zgb 0 ns) 15 with q | q
        ·exact q
        ·rw [show 15-Zgb 0 ns=0 by omega] at e1;simp at e1
       have:(2:Nat)^14=2^(15-Zgb 0 ns):=by rw [←e1]
       have hcases:Zgb 0 ns=1∨2≤Zgb 0 ns:=by omega
       rcases hcases with q | q
       ·omega
       ·have:2^(15-Zgb 0 ns)<2^14:=Nat.pow_lt_pow_right (by omega) (by omega)
        omega
     rw [this]
    ·rw [if_neg (by omega)]
     have:decide (ZeM ns=1∧Zbs ns=16384)=false:=by simp [hu]
     rw [this];rfl
 ·rw [if_pos (by omega),decide_eq_false hn];rfl
theorem ZaB {i:Nat}:(decide ((0:Int)≤(i:Int))&&true)=true:=by simp
theorem ZlW (ns:List Nat) (hn:ns.length≤1000000):∀(j i many:Nat),i+j=ns.length→many≤i→ZcA.l0 (j+1) (zs ns,(many:Int),(i:Int))=some ((many+ZeM (ns.drop i):Nat):Int)
 | 0,i,many,hi,h2=>by
  rw [ZcA.l0.succ];simp only [ZcA.l0.step,Zag]
  rw [ZaZ (by omega),List.drop_eq_nil_of_le (by omega)];rfl
 | j+1,i,many,hi,h2=>by
  have hlt:i<ns.length:=by omega
  have hd:ns.drop i=ns[i]::ns.drop (i+1):=List.drop_eq_getElem_cons hlt
  have hg:ns.getD i 0=ns[i]:=Zal hlt
  rw [ZcA.l0.succ];simp only [ZcA.l0.step,Zag]
  rw [ZaY hlt,cond_true,Zab _ ZaB,Int.toNat_natCast,ZaE,hg,hd]
  ((try simp (disch:=omega) only [Zan,Zam,Zak,Zad,Zas,ZaO,Zaf,Zaz,Zaw,Zae,Option.map_some,cond_true,cond_false,Int.sub_zero,Int.toNat_natCast]);(try simp only [Zbo,ZdH,ZdK,Zat,Zbx,if_true,if_false]))
  by_cases h0:0<ns[i]
  ·rw [if_pos (by omega),show (many:Int)+1=((many+1:Nat):Int) by omega,show (i:Int)+1=((i+1:Nat):Int) by omega,ZlW ns hn j (i+1) _ (by omega) (by omega)]
   simp only [ZeM,if_pos h0,Nat.add_assoc]
  ·rw [if_neg (by omega),show (i:Int)+1=((i+1:Nat):Int) by omega,ZlW ns hn j (i+1) _ (by omega) (by omega)]
   simp only [ZeM,if_neg h0,Nat.zero_add]
theorem ZqA (ns:List Nat) (hn:ns.length≤1000000):ZcA (zs ns)=some ((ZeM ns:Nat):Int):=by
 unfold ZcA
 have h:=ZlW ns hn ns.length 0 0 (by omega) (by omega)
 rw [show ((0:Nat):Int)=0 from rfl,List.drop_zero,Nat.zero_add] at h
 rw [Zag,ZaJ,h];rfl
theorem ZgK (ns:List Nat) (hn:ns.length≤1000000):∀(j i sum:Nat),i+j=ns.length→sum≤32768*i→
  ZaN.l0 (j+1) (zs ns,(sum:Int),(i:Int))=some (if (ns.drop i).all (fun n=>decide (n≤15)) then .inl (zs ns,((sum+Zbs (ns.drop i):Nat):Int)) else .inr false)
 | 0,i,sum,hi,h1=>by
  rw [ZaN.l0.succ];simp only [ZaN.l0.step,Zag]
  rw [ZaZ (by omega),List.drop_eq_nil_of_le (by omega)];rfl
 | j+1,i,sum,hi,h1=>by
  have hlt:i<ns.length:=by omega
  have hd:ns.drop i=ns[i]::ns.drop (i+1):=List.drop_eq_getElem_cons hlt
  have hg:ns.getD i 0=ns[i]:=Zal hlt
  rw [ZaN.l0.succ];simp only [ZaN.l0.step,Zag]
  rw [ZaY hlt,cond_true,Zab _ ZaB,Int.toNat_natCast,ZaE,hg,Zk0,hd,List.all_cons]
  simp only [Zae]
  by_cases h15:ns[i]≤15
  ·have e1:decide ((0:Int)≤(ns[i]:Int)∧(ns[i]:Int)≤15)=true:=by simp;omega
   rw [e1,decide_eq_true h15,Bool.true_and]
   simp only [Bool.not_true,cond_false,Zbo]
   rw [Zab _ ZaB]
   by_cases h0:0<ns[i]
   ·have hp:2^(15-ns[i])≤2^15:=Nat.pow_le_pow_right (by omega) (by omega)
    have hp0:0<2^(15-ns[i]):=Nat.two_pow_pos _
    rw [if_pos (by omega),Zab _ ZaB,Zaf (by omega) (by omega),show 15-(ns[i]:Int)=((15-ns[i]:Nat):Int) by omega,ZhM _ (by omega)]
    ((try simp (disch:=omega) only [Zan,Zam,Zak,Zad,Zas,ZaO,Zaf,Zaz,Zaw,Zae,Option.map_some,cond_true,cond_false,Int.sub_zero,Int.toNat_natCast]);(try simp only [Zbo,ZdH,ZdK,Zat,Zbx,if_true,if_false]))
    rw [show (sum:Int)+((2^(15-ns[i]):Nat):Int)=((sum+2^(15-ns[i]):Nat):Int) by omega,show (i:Int)+1=((i+1:Nat):Int) by omega,
     ZgK ns hn j (i+1) _ (by omega) (by omega)]
    simp only [Zbs,if_pos h0,Nat.add_assoc]
   ·rw [if_neg (by omega)]
    ((try simp (disch:=omega) only [Zan,Zam,Zak,Zad,Zas,ZaO,Zaf,Zaz,Zaw,Zae,Option.map_some,cond_true,cond_false,Int.sub_zero,Int.toNat_natCast]);(try simp only [Zbo,ZdH,ZdK,Zat,Zbx,if_true,if_false]))
    rw [show (i:Int)+1=((i+1:Nat):Int) by omega,ZgK ns hn j (i+1) _ (by omega) (by omega)]
    simp only [Zbs,if_neg h0,Nat.zero_add]
  ·have e1:decide ((0:Int)≤(ns[i]:Int)∧(ns[i]:Int)≤15)=false:=by simp;omega
   rw [e1,decide_eq_false h15]
   rfl
theorem Zfc (ns:List Nat) (hn:ns.length≤1000000):ZaN (zs ns)=some (ZcZ ns):=by
 unfold ZaN ZcZ
 have h:=ZgK ns hn ns.length 0 0 (by omega) (by omega)
 rw [show ((0:Nat):Int)=0 from rfl,List.drop_zero,Nat.zero_add] at h
 rw [Zag,ZaJ,h]
 cases hall:ns.all (fun n=>decide (n≤15)) with
 | false=>rw [Bool.false_and,Bool.and_false];rfl
 | true=>
  simp only [if_true,Zae,Bool.true_and,ZqA ns hn,Zag]
  have p14:=ZhM 14 (by omega)
  have p15:=ZhM 15 (by omega)
  rw [show ((14:Nat):Int)=14 from rfl] at p14
  rw [show ((15:Nat):Int)=15 from rfl] at p15
  rw [p14,p15]
  simp only [Zae]
  have one:((bif ((ZeM ns:Nat):Int)==1 then some (((Zbs ns:Nat):Int)==((2^14:Nat):Int)) else some false):Option Bool)=some (decide (ZeM ns=1∧Zbs ns=16384)):=by
   by_cases hu:ZeM ns=1
   ·have e:(((ZeM ns:Nat):Int)==1)=true:=by simp [hu]
    rw [e,cond_true]
    congr 1
    rw [Bool.eq_iff_iff,beq_iff_eq,decide_eq_true_eq]
    omega
   ·have e:(((ZeM ns:Nat):Int)==1)=false:=by simp;omega
    rw [e];simp [hu]
  rw [one]
  simp only [Zae]
  by_cases h3:ns.length≤300
  ·have e:decide ((ns.length:Int)≤300)=true:=by simp;omega
   rw [e,cond_true,decide_eq_true h3]
   by_cases hk:Zbs ns=32768
   ·have e:(((Zbs ns:Nat):Int)==((2^15:Nat):Int))=true:=by simp [hk]
    rw [e,decide_eq_true hk];rfl
   ·have e:(((Zbs ns:Nat):Int)==((2^15:Nat):Int))=false:=by rw [beq_eq_false_iff_ne];omega
    rw [e,decide_eq_false hk];rfl
  ·have e:decide ((ns.length:Int)≤300)=false:=by simp;omega
   rw [e,decide_eq_false h3];rfl
end Ev
end
section
namespace Ev
open Go
def base (ns:List Nat):Nat→Nat
 | 0=>0
 | 1=>0
 | l+2=>2*(base ns (l+1)+ns.count (l+1))
def Zdi (ns:List Nat) (i:Nat):Nat:=base ns (ns.getD i 0)+(ns.take i).count (ns.getD i 0)
def ZeZ (ns:List Nat) (l i:Nat):List Nat:=(List.range ns.length).map fun j=>if (1≤ns.getD j 0∧ns.getD j 0<l)∨(1≤l∧ns.getD j 0=l∧j<i) then Zdi ns j else 0
def ZbW (ns:List Nat):List Nat:=ZeZ ns 16 0
theorem ZtB (ns:List Nat):∀l,base ns (l+1)+2*ns.length≤ns.length*2^(l+1)
 | 0=>by simp [base];omega
 | l+1=>by
  have ih:=ZtB ns l
  have hc:=List.count_le_length (a:=l+1) (l:=ns)
  have h1:ns.length*2^(l+1+1)=2*(ns.length*2^(l+1)):=by rw [Nat.pow_succ,←Nat.mul_assoc,Nat.mul_comm]
  have e:base ns (l+1+1)=2*(base ns (l+1)+ns.count (l+1)):=rfl
  omega
theorem ZhS (ns:List Nat) (hn:ns.length≤1000) (l:Nat) (hl:l≤16):base ns l≤100000000:=by
 cases l with
 | zero=>simp [base]
 | succ l=>
  have h:=ZtB ns l
  have hp:2^(l+1)≤2^16:=Nat.pow_le_pow_right (by omega) hl
  have:ns.length*2^(l+1)≤1000*2^16:=Nat.mul_le_mul hn hp
  omega
theorem Zhh (ns:List Nat) (l i:Nat):(ZeZ ns l i).length=ns.length:=by simp [ZeZ]
theorem Znk (ns:List Nat) (l:Nat) (hl:1≤l):ZeZ ns l ns.length=ZeZ ns (l+1) 0:=by
 unfold ZeZ
 apply List.map_congr_left
 intro j hj
 have hj:=List.mem_range.1 hj
 by_cases h:(1≤ns.getD j 0∧ns.getD j 0<l)∨(1≤l∧ns.getD j 0=l∧j<ns.length)
 ·rw [if_pos h,if_pos (by omega)]
 ·rw [if_neg h,if_neg (by omega)]
theorem Znj (ns:List Nat):ZeZ ns 1 0=List.replicate ns.length 0:=by
 apply List.ext_getElem
 ·simp [ZeZ]
 ·intro i h1 h2
  simp only [ZeZ,List.getElem_map,List.getElem_range,List.getElem_replicate]
  rw [if_neg (by omega)]
theorem ZpJ (ns:List Nat) (l i:Nat) (hl:1≤l) (hi:i<ns.length):ZeZ ns l (i+1)=if ns.getD i 0=l then (ZeZ ns l i).set i (base ns l+(ns.take i).count l) else ZeZ ns l i:=by
 apply List.ext_getElem
 ·split<;>simp [ZeZ]
 ·intro j h1 h2
  have hj:j<ns.length:=by simpa [ZeZ] using h1
  by_cases hc:ns.getD i 0=l
  ·simp only [if_pos hc,List.getElem_set]
   by_cases e:i=j
   ·subst e
    rw [if_pos rfl]
    simp only [ZeZ,List.getElem_map,List.getElem_range]
    rw [if_pos (by omega)]
    unfold Zdi;rw [hc]
   ·rw [if_neg e]
    simp only [ZeZ,List.getElem_map,List.getElem_range]
    by_cases h:(1≤ns.getD j 0∧ns.getD j 0<l)∨(1≤l∧ns.getD j 0=l∧j<i)
    ·rw [if_pos h,if_pos (by omega)]
    ·rw [if_neg h,if_neg (by omega)]
  ·simp only [if_neg hc]
   simp only [ZeZ,List.getElem_map,List.getElem_range]
   by_cases h:(1≤ns.getD j 0∧ns.getD j 0<l)∨(1≤l∧ns.getD j 0=l∧j<i)
   ·rw [if_pos h,if_pos (by omega)]
   ·rw [if_neg h]
    by_cases e:j=i
    ·subst e;rw [if_neg (by omega)]
    ·rw [if_neg (by omega)]
theorem Zem (ns:List Nat) (l i:Nat) (hi:i<ns.length):(ns.take (i+1)).count l=(ns.take i).count l+if ns.getD i 0=l then 1 else 0:=by
 rw [List.take_succ_eq_append_getElem hi,List.count_append,Zal hi]
 by_cases h:ns[i]=l<;>simp [h]
theorem Ztv (ns:List Nat) (hn:ns.length≤1000) (l:Nat) (hl:1≤l) (hl15:l≤15):∀(j i:Nat),i+j=ns.length→
  Zct.l0 (j+1) (zs ns,((base ns l+(ns.take i).count l:Nat):Int),(l:Int),zs ns,(ns.length:Int),(i:Int),zs (ZeZ ns l i))=some (zs ns,((base ns l+ns.count l:Nat):Int),(l:Int),zs (ZeZ ns (l+1) 0))
 | 0,i,hi=>by
  have:i=ns.length:=by omega
  subst this
  rw [Zct.l0.succ];simp only [Zct.l0.step,Zag]
  rw [ZaZ (by omega),List.take_length,Znk ns l hl];rfl
 | j+1,i,hi=>by
  have hlt:i<ns.length:=by omega
  have ih:=Ztv ns hn l hl hl15 j (i+1) (by omega)
  have hb:=ZhS ns hn l (by omega)
  have hc:=List.count_le_length (a:=l) (l:=ns.take i)
  rw [List.length_take] at hc
  rw [Zem ns l i hlt,ZpJ ns l i hl hlt] at ih
  rw [Zct.l0.succ];simp only [Zct.l0.step,Zag,Zhh]
  rw [ZaY hlt,cond_true,Zab _ ZaB,Int.toNat_natCast,ZaE]
  ((try simp (disch:=omega) only [Zan,Zam,Zak,Zad,Zas,ZaO,Zaf,Zaz,Zaw,Zae,Option.map_some,cond_true,cond_false,Int.sub_zero,Int.toNat_natCast]);(try simp only [Zbo,ZdH,ZdK,Zat,Zbx,if_true,if_false]))
  by_cases h:ns.getD i 0=l
  ·rw [if_pos (by omega),Zab _ ZaB,show (i:Int)+1=((i+1:Nat):Int) by omega,show ((base ns l+(ns.take i).count l:Nat):Int)+1=((base ns l+((ns.take i).count l+1):Nat):Int) by omega,Zfp]
   rw [if_pos h,if_pos h] at ih
   rw [ih]
  ·rw [if_neg (by omega),show (i:Int)+1=((i+1:Nat):Int) by omega]
   rw [if_neg h,if_neg h] at ih
   simp only [Nat.add_zero] at ih
   rw [ih]
theorem Ztu (ns:List Nat) (hn:ns.length≤1000):∀(j l:Nat),l+j=16→1≤l→Zct.l1 (j+1) (zs ns,((base ns l:Nat):Int),(l:Int),zs (ZeZ ns l 0))=some (zs (ZbW ns))
 | 0,l,hl,h1=>by
  have:l=16:=by omega
  subst this
  rw [Zct.l1.succ];simp only [Zct.l1.step]
  rfl
 | j+1,l,hl,h1=>by
  have ih:=Ztu ns hn j (l+1) (by omega) (by omega)
  have h0:=Ztv ns hn l h1 (by omega) ns.length 0 (by omega)
  have hb:=ZhS ns hn l (by omega)
  have hc:=List.count_le_length (a:=l) (l:=ns)
  rw [List.take_zero,List.count_nil,show ((0:Nat):Int)=0 from rfl] at h0
  simp only [Nat.add_zero] at h0
  rw [Zct.l1.succ];simp only [Zct.l1.step,Zag]
  ((try simp (disch:=omega) only [Zan,Zam,Zak,Zad,Zas,ZaO,Zaf,Zaz,Zaw,Zae,Option.map_some,cond_true,cond_false,Int.sub_zero,Int.toNat_natCast]);(try simp only [Zbo,ZdH,ZdK,Zat,Zbx,if_true,if_false]))
  rw [if_pos (by omega),h0]
  simp only [Zae]
  ((try simp (disch:=omega) only [Zan,Zam,Zak,Zad,Zas,ZaO,Zaf,Zaz,Zaw,Zae,Option.map_some,cond_true,cond_false,Int.sub_zero,Int.toNat_natCast]);(try simp only [Zbo,ZdH,ZdK,Zat,Zbx,if_true,if_false]))
  have e:base ns (l+1)=2*(base ns l+ns.count l):=by
   cases l with
   | zero=>omega
   | succ l=>rfl
  rw [show ((base ns l+ns.count l:Nat):Int)*2=((base ns (l+1):Nat):Int) by rw [e];omega,show (l:Int)+1=((l+1:Nat):Int) by omega,ih]
theorem Zk8 (ns:List Nat) (hn:ns.length≤1000):Zct (zs ns)=some (zs (ZbW ns)):=by
 unfold Zct
 have h:=Ztu ns hn 15 1 (by omega) (by omega)
 rw [Znj,←ZfN] at h
 rw [Zag,Zak (by omega) (by rw [Int.toNat_natCast];omega),Int.toNat_natCast]
 rw [show ((15:Int)-1).toNat+2=15+1 from rfl]
 have e:((base ns 1:Nat):Int)=0:=rfl
 rw [e,show ((1:Nat):Int)=1 from rfl,show ((0:Nat):Int)=0 from rfl] at h
 rw [h];rfl
theorem ZnU (ns:List Nat) (hn:ns.length≤1000) (l:Nat) (hl:1≤l) (hl15:l≤15):∀(j i:Nat),i+j=ns.length→
  ZaL.l0 (j+1) (zs ns,((base ns l+(ns.take i).count l:Nat):Int),(l:Int),(i:Int),zs (ZeZ ns l i))=some (zs ns,((base ns l+ns.count l:Nat):Int),(l:Int),zs (ZeZ ns (l+1) 0))
 | 0,i,hi=>by
  have:i=ns.length:=by omega
  subst this
  rw [ZaL.l0.succ];simp only [ZaL.l0.step,Zag]
  rw [ZaZ (by omega),List.take_length,Znk ns l hl];rfl
 | j+1,i,hi=>by
  have hlt:i<ns.length:=by omega
  have ih:=ZnU ns hn l hl hl15 j (i+1) (by omega)
  have hb:=ZhS ns hn l (by omega)
  have hc:=List.count_le_length (a:=l) (l:=ns.take i)
  rw [List.length_take] at hc
  rw [Zem ns l i hlt,ZpJ ns l i hl hlt] at ih
  rw [ZaL.l0.succ];simp only [ZaL.l0.step,Zag,Zhh]
  rw [ZaY hlt,cond_true,Zab _ ZaB,Int.toNat_natCast,ZaE]
  ((try simp (disch:=omega) only [Zan,Zam,Zak,Zad,Zas,ZaO,Zaf,Zaz,Zaw,Zae,Option.map_some,cond_true,cond_false,Int.sub_zero,Int.toNat_natCast]);(try simp only [Zbo,ZdH,ZdK,Zat,Zbx,if_true,if_false]))
  by_cases h:ns.getD i 0=l
  ·rw [if_pos (by omega),Zab _ ZaB,show (i:Int)+1=((i+1:Nat):Int) by omega,show ((base ns l+(ns.take i).count l:Nat):Int)+1=((base ns l+((ns.take i).count l+1):Nat):Int) by omega,Zfp]
   rw [if_pos h,if_pos h] at ih
   rw [ih]
  ·rw [if_neg (by omega),show (i:Int)+1=((i+1:Nat):Int) by omega]
   rw [if_neg h,if_neg h] at ih
   simp only [Nat.add_zero] at ih
   rw [ih]
theorem ZnT (ns:List Nat) (hn:ns.length≤1000):∀(j l:Nat),l+j=16→1≤l→ZaL.l1 (j+1) (zs ns,((base ns l:Nat):Int),(l:Int),zs (ZeZ ns l 0))=some (zs (ZbW ns))
 | 0,l,hl,h1=>by
  have:l=16:=by omega
  subst this
  rw [ZaL.l1.succ];simp only [ZaL.l1.step]
  rfl
 | j+1,l,hl,h1=>by
  have ih:=ZnT ns hn j (l+1) (by omega) (by omega)
  have h0:=ZnU ns hn l h1 (by omega) ns.length 0 (by omega)
  have hb:=ZhS ns hn l (by omega)
  have hc:=List.count_le_length (a:=l) (l:=ns)
  rw [List.take_zero,List.count_nil,show ((0:Nat):Int)=0 from rfl] at h0
  simp only [Nat.add_zero] at h0
  rw [ZaL.l1.succ];simp only [ZaL.l1.step,Zag]
  ((try simp (disch:=omega) only [Zan,Zam,Zak,Zad,Zas,ZaO,Zaf,Zaz,Zaw,Zae,Option.map_some,cond_true,cond_false,Int.sub_zero,Int.toNat_natCast]);(try simp only [Zbo,ZdH,ZdK,Zat,Zbx,if_true,if_false]))
  rw [if_pos (by omega),h0]
  simp only [Zae]
  ((try simp (disch:=omega) only [Zan,Zam,Zak,Zad,Zas,ZaO,Zaf,Zaz,Zaw,Zae,Option.map_some,cond_true,cond_false,Int.sub_zero,Int.toNat_natCast]);(try simp only [Zbo,ZdH,ZdK,Zat,Zbx,if_true,if_false]))
  have e:base ns (l+1)=2*(base ns l+ns.count l):=by
   cases l with
   | zero=>omega
   | succ l=>rfl
  rw [show 2*((base ns l+ns.count l:Nat):Int)=((base ns (l+1):Nat):Int) by rw [e];omega,show (l:Int)+1=((l+1:Nat):Int) by omega,ih]
theorem ZeE (ns:List Nat) (hn:ns.length≤1000):ZaL (zs ns)=some (zs (ZbW ns)):=by
 unfold ZaL
 have h:=ZnT ns hn 15 1 (by omega) (by omega)
 rw [Znj,←ZfN] at h
 rw [Zag,Zak (by omega) (by rw [Int.toNat_natCast];omega),Int.toNat_natCast]
 rw [show ((15:Int)-1).toNat+2=15+1 from rfl]
 have e:((base ns 1:Nat):Int)=0:=rfl
 rw [e,show ((1:Nat):Int)=1 from rfl,show ((0:Nat):Int)=0 from rfl] at h
 rw [h];rfl
def ZeW (ns:List Nat) (k c l:Nat):Option Nat:=(List.range k).find? fun i=>decide (0<ns.getD i 0)&&(decide (ns.getD i 0=l)&&decide (Zdi ns i=c))
theorem Zwt (ns:List Nat) {i j:Nat} (hi:i<ns.length) (hj:j<ns.length) (hl:ns.getD i 0=ns.getD j 0) (hc:Zdi ns i=Zdi ns j):i=j:=by
 have key:∀{i j:Nat},i<j→j<ns.length→ns.getD i 0=ns.getD j 0→Zdi ns i<Zdi ns j:=fun {i j} hij hj hl=>by
  unfold Zdi
  rw [hl]
  have h1:=Zem ns (ns.getD j 0) i (by omega)
  rw [if_pos hl] at h1
  have h2:(ns.take (i+1)).count (ns.getD j 0)≤(ns.take j).count (ns.getD j 0):=by
   have:ns.take (i+1)=(ns.take j).take (i+1):=by rw [List.take_take,Nat.min_eq_left (by omega)]
   rw [this]
   exact (List.take_sublist _ _).count_le _
  omega
 rcases Nat.lt_trichotomy i j with h | h | h
 ·have:=key h hj hl;omega
 ·exact h
 ·have:=key h hi hl.symm;omega
theorem ZhP {ns:List Nat} {k c l i:Nat} (h:ZeW ns k c l=some i):i<k∧0<ns.getD i 0∧ns.getD i 0=l∧Zdi ns i=c:=by
 unfold ZeW at h
 have h1:=List.find?_some h
 have h2:=List.mem_of_find?_eq_some h
 simp only [Bool.and_eq_true,decide_eq_true_eq] at h1
 exact ⟨List.mem_range.1 h2,h1⟩
theorem Zpb {ns:List Nat} {k i:Nat} (hk:k≤ns.length) (hi:i<k) (h0:0<ns.getD i 0):ZeW ns k (Zdi ns i) (ns.getD i 0)=some i:=by
 cases h:ZeW ns k (Zdi ns i) (ns.getD i 0) with
 | none=>
  unfold ZeW at h
  have:=List.find?_eq_none.1 h i (List.mem_range.2 hi)
  exact absurd (by simp only [Bool.and_eq_true,decide_eq_true_eq];exact ⟨h0,trivial,trivial⟩) this
 | some j=>
  obtain ⟨h1,h2,h3,h4⟩:=ZhP h
  rw [Zwt ns (by omega) (by omega) h3 h4]
theorem Zj4 (ns:List Nat) (k c l:Nat) (hk:k<ns.length):ZeW ns (k+1) c l=if 0<ns.getD k 0∧ns.getD k 0=l∧Zdi ns k=c then some k else ZeW ns k c l:=by
 by_cases h:0<ns.getD k 0∧ns.getD k 0=l∧Zdi ns k=c
 ·rw [if_pos h]
  obtain ⟨h1,rfl,rfl⟩:=h
  exact Zpb (by omega) (by omega) h1
 ·rw [if_neg h]
  unfold ZeW
  rw [List.range_succ,List.find?_append]
  have:List.find? (fun i=>decide (0<ns.getD i 0)&&(decide (ns.getD i 0=l)&&decide (Zdi ns i=c))) [k]=none:=by
   rw [List.find?_cons]
   have:(decide (0<ns.getD k 0)&&(decide (ns.getD k 0=l)&&decide (Zdi ns k=c)))=false:=by
    rw [Bool.eq_false_iff];intro hh;simp only [Bool.and_eq_true,decide_eq_true_eq] at hh;exact h hh
   rw [this];rfl
  rw [this]
  cases List.find? (fun i=>decide (0<ns.getD i 0)&&(decide (ns.getD i 0=l)&&decide (Zdi ns i=c))) (List.range k)<;>rfl
def Zru (ns:List Nat) (k:Nat) (es:List ((Int×Int)×Int)):Prop:=∀c l:Nat,Zee [.int .i64,.int .i64] [.int .i64] es ((c:Int),(l:Int))=(ZeW ns k c l).map fun (n:Nat)=>(n:Int)
theorem Zt3 (es:List ((Int×Int)×Int)) (k k':Int×Int) (v:Int):Zee [.int .i64,.int .i64] [.int .i64] (Ze6 [.int .i64,.int .i64] [.int .i64] es k v) k'=if k'=k then some v else Zee [.int .i64,.int .i64] [.int .i64] es k':=by
 have eqb:∀a b:Int×Int,El.eqb [.int .i64,.int .i64] a b=decide (a=b):=fun a b=>by
  rw [Bool.eq_iff_iff]
  simp only [El.eqb,Sc.eqb,Bool.and_true,Bool.and_eq_true,beq_iff_eq,decide_eq_true_eq]
  exact ⟨fun h=>Prod.ext h.1 h.2,fun h=>by rw [h];exact ⟨rfl,rfl⟩⟩
 induction es with
 | nil=>
  simp only [Ze6,Zee,eqb]
  by_cases h:k'=k<;>simp [h]
 | cons e r ih=>
  simp only [Ze6,eqb]
  by_cases h1:k=e.1
  ·rw [decide_eq_true h1,cond_true]
   simp only [Zee,eqb]
   by_cases h:k'=k
   ·simp [h]
   ·have:¬k'=e.1:=fun x=>h (x.trans h1.symm)
    simp [h,this]
  ·rw [decide_eq_false h1,cond_false]
   simp only [Zee,eqb]
   by_cases h:k'=e.1
   ·have:¬k'=k:=fun x=>h1 (x.symm.trans h)
    rw [decide_eq_true h,cond_true,cond_true,if_neg this]
   ·rw [decide_eq_false h,cond_false,cond_false];exact ih
end Ev
end
section
namespace Ev
open Go
theorem Zdh (ns:List Nat):(ZbW ns).length=ns.length:=Zhh ns 16 0
theorem ZgC (ns:List Nat) (h15:∀n∈ns,n≤15) (i:Nat) (hi:i<ns.length) (h0:0<ns.getD i 0):(ZbW ns).getD i 0=Zdi ns i:=by
 have hm:ns.getD i 0≤15:=by rw [Zal hi];exact h15 _ (List.getElem_mem hi)
 rw [Zal (by rw [Zdh];exact hi)]
 simp only [ZbW,ZeZ,List.getElem_map,List.getElem_range]
 rw [if_pos (by omega)]
theorem ZmE (ns:List Nat) (hn:ns.length≤1000) (h15:∀n∈ns,n≤15):∀(j i:Nat) (es:List ((Int×Int)×Int)),i+j=ns.length→Zru ns i es→
  Ret (Zb3.l0 (j+1) (zs ns,(ns.length:Int),(i:Int),es,zs (ZbW ns))) (Zru ns ns.length)
 | 0,i,es,hi,h=>by
  have:i=ns.length:=by omega
  subst this
  rw [Zb3.l0.succ];simp only [Zb3.l0.step]
  rw [ZaZ (by omega)];exact .pure h
 | j+1,i,es,hi,h=>by
  have hlt:i<ns.length:=by omega
  have hm:ns.getD i 0≤15:=by rw [Zal hlt];exact h15 _ (List.getElem_mem hlt)
  rw [Zb3.l0.succ];simp only [Zb3.l0.step,Zag,Zdh]
  rw [ZaY hlt,cond_true,Zab _ ZaB,Zab _ ZaB,Int.toNat_natCast,ZaE,ZaE]
  ((try simp (disch:=omega) only [Zan,Zam,Zak,Zad,Zas,ZaO,Zaf,Zaz,Zaw,Zae,Option.map_some,cond_true,cond_false,Int.sub_zero,Int.toNat_natCast]);(try simp only [Zbo,ZdH,ZdK,Zat,Zbx,if_true,if_false]))
  by_cases h0:0<ns.getD i 0
  ·rw [if_pos (by omega),Zab _ ZaB,show (i:Int)+1=((i+1:Nat):Int) by omega,ZgC ns h15 i hlt h0]
   refine ZmE ns hn h15 j (i+1) _ (by omega) fun c l=>?_
   rw [Zt3,h c l,Zj4 ns i c l hlt]
   by_cases hc:0<ns.getD i 0∧ns.getD i 0=l∧Zdi ns i=c
   ·rw [if_pos hc,if_pos (by obtain ⟨_,rfl,rfl⟩:=hc;rfl)];rfl
   ·rw [if_neg hc,if_neg (fun e=>hc ⟨h0,by have e2:(l:Int)=((ns.getD i 0:Nat):Int):=(Prod.mk.inj e).2;omega,by have e1:(c:Int)=((Zdi ns i:Nat):Int):=(Prod.mk.inj e).1;omega⟩)]
  ·rw [if_neg (by omega),show (i:Int)+1=((i+1:Nat):Int) by omega]
   refine ZmE ns hn h15 j (i+1) _ (by omega) fun c l=>?_
   rw [h c l,Zj4 ns i c l hlt,if_neg (fun e=>h0 e.1)]
theorem Zkf (ns:List Nat) (hn:ns.length≤1000) (h15:∀n∈ns,n≤15):Ret (Zb3 (zs ns)) (Zru ns ns.length):=by
 unfold Zb3
 rw [Zk8 ns hn]
 simp only [Zae,Zag,Zdh]
 rw [ZaJ]
 refine .bind (ZmE ns hn h15 ns.length 0 [] (by omega) fun c l=>?_) fun a ha=>.pure ha
 simp [Zee,ZeW]
def Zft (ns:List Nat):Nat→Nat→Nat→List Bool→Option (Nat×List Bool)
 | 0,_,_,_=>none
 | _+1,_,_,[]=>none
 | f+1,l,c,b::r=>match ZeW ns ns.length (2*c+b.toNat) l with
  | some i=>some (i,r)
  | none=>Zft ns f (l+1) (2*c+b.toNat) r
def ZkD (ns:List Nat) (m:Option (List Bool)):Option (Nat×List Bool):=m.bind (Zft ns 15 1 0)
def Zy5 (s:Str) (x:Option (Nat×List Bool)) (v at_:Int) (bad:Bool):Prop:=match x with
 | some (i,l)=>v=(i:Int)∧Rs s at_ bad (some l)
 | none=>v=0∧Rs s at_ bad none
theorem Znt {s:Str} (hs:s.length≤1000000000) (ns:List Nat) (book:List ((Int×Int)×Int)) (hB:Zru ns ns.length book):∀(f l c:Nat) (at_:Int) (bad:Bool) (m:Option (List Bool)),l+f=16→c<2^l→Rs s at_ bad m→
  Ret (Zbj.l0 (f+1) ((c:Int),(l:Int),s,at_,bad,book)) fun r=>match m.bind (Zft ns f l c) with
   | some (i,l')=>∃a,r=.inr ((i:Int),s,a,false,book)∧Rs s a false (some l')
   | none=>∃a b,r=.inl (s,a,b,book)∧∃m',Rs s a b m'
 | 0,l,c,at_,bad,m,hf,hc,h=>by
  rw [Zbj.l0.succ];simp only [Zbj.l0.step]
  ((try simp (disch:=omega) only [Zan,Zam,Zak,Zad,Zas,ZaO,Zaf,Zaz,Zaw,Zae,Option.map_some,cond_true,cond_false,Int.sub_zero,Int.toNat_natCast]);(try simp only [Zbo,ZdH,ZdK,Zat,Zbx,if_true,if_false]))
  rw [if_neg (by omega)]
  have:m.bind (Zft ns 0 l c)=none:=by cases m<;>rfl
  rw [this]
  exact .pure ⟨at_,bad,rfl,_,h⟩
 | f+1,l,c,at_,bad,m,hf,hc,h=>by
  have hp:2^l≤2^15:=Nat.pow_le_pow_right (by omega) (by omega)
  rw [Zbj.l0.succ];simp only [Zbj.l0.step]
  ((try simp (disch:=omega) only [Zan,Zam,Zak,Zad,Zas,ZaO,Zaf,Zaz,Zaw,Zae,Option.map_some,cond_true,cond_false,Int.sub_zero,Int.toNat_natCast]);(try simp only [Zbo,ZdH,ZdK,Zat,Zbx,if_true,if_false]))
  rw [if_pos (by omega)]
  refine .bind (ZjL hs h) ?_
  rintro ⟨r,s',at',bad'⟩ ⟨rfl,b,rfl,h2,h3⟩
  dsimp only at h2 h3 ⊢
  have hb:b.toNat≤1:=by cases b<;>decide
  ((try simp (disch:=omega) only [Zan,Zam,Zak,Zad,Zas,ZaO,Zaf,Zaz,Zaw,Zae,Option.map_some,cond_true,cond_false,Int.sub_zero,Int.toNat_natCast]);(try simp only [Zbo,ZdH,ZdK,Zat,Zbx,if_true,if_false]))
  rw [show 2*(c:Int)+((b.toNat:Nat):Int)=((2*c+b.toNat:Nat):Int) by omega,show (l:Int)+1=((l+1:Nat):Int) by omega,hB _ _]
  have go:∀m2,Rs s' at' bad' m2→Ret (Zbj.l0 (f+1) (((2*c+b.toNat:Nat):Int),((l+1:Nat):Int),s',at',bad',book)) fun r=>match m2.bind (Zft ns f (l+1) (2*c+b.toNat)) with
   | some (i,l')=>∃a,r=.inr ((i:Int),s',a,false,book)∧Rs s' a false (some l')
   | none=>∃a b,r=.inl (s',a,b,book)∧∃m',Rs s' a b m':=fun m2 h4=>Znt hs ns book hB f (l+1) _ at' bad' m2 (by omega) (by rw [Nat.pow_succ];omega) h4
  have fail:Rs s' at' bad' none→m.bind (Zft ns (f+1) l c)=none→Ret (((if ((ZeW ns ns.length (2*c+b.toNat) l).map fun (n:Nat)=>(n:Int)).isSome=true then some (!bad') else some false).bind fun c_1=>
    bif c_1 then some (Sum.inr (((ZeW ns ns.length (2*c+b.toNat) l).map fun (n:Nat)=>(n:Int)).getD 0,s',at',bad',book)) else Zbj.l0 (f+1) (((2*c+b.toNat:Nat):Int),((l+1:Nat):Int),s',at',bad',book))) fun r=>match m.bind (Zft ns (f+1) l c) with
   | some (i,l')=>∃a,r=.inr ((i:Int),s',a,false,book)∧Rs s' a false (some l')
   | none=>∃a b,r=.inl (s',a,b,book)∧∃m',Rs s' a b m':=fun h4 e=>by
   rw [e]
   have hbad:bad'=true:=h4.1
   have e2:(if ((ZeW ns ns.length (2*c+b.toNat) l).map fun (n:Nat)=>(n:Int)).isSome=true then some (!bad') else some false)=some false:=by
    rw [hbad];split<;>rfl
   rw [e2]
   simp only [Zae,cond_false]
   exact go none h4
  have hform:∀(x:Option Int) (y z:Option (((Str×Int×Bool×List ((Int×Int)×Int))⊕(Int×Str×Int×Bool×List ((Int×Int)×Int))))),((bif x.isSome then some (!bad') else some false).bind fun c_1=>bif c_1 then y else z)=((if x.isSome=true then some (!bad') else some false).bind fun c_1=>bif c_1 then y else z):=fun x y z=>by cases x<;>rfl
  rw [hform]
  cases m with
  | none=>exact fail h2 rfl
  | some lst=>
   cases lst with
   | nil=>exact fail h2 rfl
   | cons b' l0=>
    have hbb:=h3 b' l0 rfl
    subst hbb
    have hbad:bad'=false:=h2.1
    subst hbad
    simp only [Option.bind_some,Zft]
    cases hfi:ZeW ns ns.length (2*c+b.toNat) l with
    | some i=>
     simp only [Option.map_some,Option.isSome_some,if_true,Zae,Bool.not_false,cond_true,Option.getD_some]
     exact .pure ⟨at',rfl,h2⟩
    | none=>
     simp only [Option.map_none,Option.isSome_none,Zae,cond_false,Bool.false_eq_true,if_false]
     exact go (some l0) h2
theorem ZjJ {s:Str} {at_:Int} {bad:Bool} {m:Option (List Bool)} (hs:s.length≤1000000000) (ns:List Nat) {book:List ((Int×Int)×Int)} (hB:Zru ns ns.length book) (h:Rs s at_ bad m) :
  Ret (Zbj s at_ bad book) fun r=>r.2.1=s∧r.2.2.2.2=book∧Zy5 s (ZkD ns m) r.1 r.2.2.1 r.2.2.2.1:=by
 unfold Zbj
 have h0:=Znt hs ns book hB 15 1 0 at_ bad m (by omega) (by omega) h
 rw [show ((15:Int)-1).toNat+2=15+1 from rfl]
 refine .bind h0 fun r hr=>?_
 unfold ZkD
 cases hm:m.bind (Zft ns 15 1 0) with
 | none=>
  rw [hm] at hr
  obtain ⟨a,b,rfl,m',h'⟩:=hr
  exact .pure ⟨rfl,rfl,rfl,h'.fail⟩
 | some x=>
  obtain ⟨i,l'⟩:=x
  rw [hm] at hr
  obtain ⟨a,rfl,h'⟩:=hr
  exact .pure ⟨rfl,rfl,rfl,h'⟩
theorem Zno (s:Str) (at_:Int) (bad:Bool) (ns:List Nat) (hn:ns.length≤1000) (h15:∀n∈ns,n≤15) (c l:Nat) (hl:1≤l):∀(j i:Nat),i+j=ns.length→ZeW ns i c l=none→
  ZaS.l0 (j+1) (zs ns,zs (ZbW ns),(c:Int),(l:Int),(i:Int),s,at_,bad)=some (match ZeW ns ns.length c l with
   | some k=>.inr (.inr ((k:Int),s,at_,bad))
   | none=>.inl (zs ns,zs (ZbW ns),(c:Int),(l:Int),s,at_,bad))
 | 0,i,hi,h=>by
  have:i=ns.length:=by omega
  subst this
  rw [ZaS.l0.succ];simp only [ZaS.l0.step,Zag]
  rw [ZaZ (by omega),h];rfl
 | j+1,i,hi,h=>by
  have hlt:i<ns.length:=by omega
  rw [ZaS.l0.succ];simp only [ZaS.l0.step,Zag,Zdh]
  rw [ZaY hlt,cond_true,Zab _ ZaB,Zab _ ZaB,Int.toNat_natCast,ZaE,ZaE]
  by_cases hc:0<ns.getD i 0∧ns.getD i 0=l∧Zdi ns i=c
  ·have hfull:ZeW ns ns.length c l=some i:=by
    obtain ⟨h1,rfl,rfl⟩:=hc
    exact Zpb (Nat.le_refl _) hlt h1
   obtain ⟨h1,h2,h3⟩:=hc
   have e1:(((ns.getD i 0:Nat):Int)==(l:Int))=true:=by rw [beq_iff_eq];omega
   have e2:((((ZbW ns).getD i 0:Nat):Int)==(c:Int))=true:=by rw [ZgC ns h15 i hlt h1,beq_iff_eq];omega
   rw [e1,e2,hfull]
   simp only [cond_true,Zae,Option.map_some]
  ·have hnext:ZeW ns (i+1) c l=none:=by rw [Zj4 ns i c l hlt,if_neg hc];exact h
   have ih:=Zno s at_ bad ns hn h15 c l hl j (i+1) (by omega) hnext
   have e:(bif (((ns.getD i 0:Nat):Int)==(l:Int)) then (some ((((ZbW ns).getD i 0:Nat):Int)==(c:Int))) else some false)=some false:=by
    by_cases h2:ns.getD i 0=l
    ·have e1:(((ns.getD i 0:Nat):Int)==(l:Int))=true:=by rw [beq_iff_eq];omega
     have e2:((((ZbW ns).getD i 0:Nat):Int)==(c:Int))=false:=by
      rw [ZgC ns h15 i hlt (by omega),beq_eq_false_iff_ne]
      intro h3;exact hc ⟨by omega,h2,by omega⟩
     rw [e1,e2];rfl
    ·have e1:(((ns.getD i 0:Nat):Int)==(l:Int))=false:=by rw [beq_eq_false_iff_ne];omega
     rw [e1];rfl
   rw [e]
   simp only [Zae,cond_false]
   rw [Zdx (by omega),ih]
def Zx6 (s:Str) (n:Nat) (x:Option (Nat×List Bool)) (v at_:Int) (bad:Bool):Prop:=match x with
 | some (i,l)=>v=(i:Int)∧Rs s at_ bad (some l)
 | none=>-1≤v∧v<n∧Rs s at_ bad none
theorem Znn {s:Str} (hs:s.length≤1000000000) (ns:List Nat) (hn:ns.length≤1000) (h15:∀n∈ns,n≤15):∀(f l c:Nat) (at_:Int) (bad:Bool) (m:Option (List Bool)),l+f=16→1≤l→c<2^l→Rs s at_ bad m→
  Ret (ZaS.l1 (f+1) (zs ns,zs (ZbW ns),(c:Int),(l:Int),s,at_,bad)) fun r=>match m.bind (Zft ns f l c) with
   | some (i,l')=>∃a,r=.inr ((i:Int),s,a,false)∧Rs s a false (some l')
   | none=>(∃a b,r=.inl (s,a,b)∧∃m',Rs s a b m')∨(∃k a,k<ns.length∧r=.inr ((k:Int),s,a,true)∧Rs s a true none)
 | 0,l,c,at_,bad,m,hf,h1,hc,h=>by
  rw [ZaS.l1.succ];simp only [ZaS.l1.step]
  ((try simp (disch:=omega) only [Zan,Zam,Zak,Zad,Zas,ZaO,Zaf,Zaz,Zaw,Zae,Option.map_some,cond_true,cond_false,Int.sub_zero,Int.toNat_natCast]);(try simp only [Zbo,ZdH,ZdK,Zat,Zbx,if_true,if_false]))
  rw [if_neg (by omega)]
  have:m.bind (Zft ns 0 l c)=none:=by cases m<;>rfl
  rw [this]
  exact .pure (.inl ⟨at_,bad,rfl,_,h⟩)
 | f+1,l,c,at_,bad,m,hf,h1,hc,h=>by
  have hp:2^l≤2^15:=Nat.pow_le_pow_right (by omega) (by omega)
  rw [ZaS.l1.succ];simp only [ZaS.l1.step,Zag]
  ((try simp (disch:=omega) only [Zan,Zam,Zak,Zad,Zas,ZaO,Zaf,Zaz,Zaw,Zae,Option.map_some,cond_true,cond_false,Int.sub_zero,Int.toNat_natCast]);(try simp only [Zbo,ZdH,ZdK,Zat,Zbx,if_true,if_false]))
  rw [if_pos (by omega)]
  simp only [Zae]
  cases bad with
  | true=>
   have hm:m=none:=by cases m with
    | none=>rfl
    | some l=>exact absurd h.1 (by simp)
   subst hm
   exact .pure (.inl ⟨at_,true,rfl,_,h⟩)
  | false=>
  simp only [Bool.not_false,cond_true]
  refine .bind (ZrJ hs h) ?_
  rintro ⟨r,s',at',bad'⟩ ⟨rfl,b,rfl,h2,h3⟩
  dsimp only at h2 h3 ⊢
  have hb:b.toNat≤1:=by cases b<;>decide
  ((try simp (disch:=omega) only [Zan,Zam,Zak,Zad,Zas,ZaO,Zaf,Zaz,Zaw,Zae,Option.map_some,cond_true,cond_false,Int.sub_zero,Int.toNat_natCast]);(try simp only [Zbo,ZdH,ZdK,Zat,Zbx,if_true,if_false]))
  have h0:=Zno s' at' bad' ns hn h15 (2*c+b.toNat) l h1 ns.length 0 (by omega) (by simp [ZeW])
  rw [show ((0:Nat):Int)=0 from rfl] at h0
  rw [show 2*(c:Int)+((b.toNat:Nat):Int)=((2*c+b.toNat:Nat):Int) by omega,h0]
  simp only [Zae]
  have go:∀m2,Rs s' at' bad' m2→Ret (ZaS.l1 (f+1) (zs ns,zs (ZbW ns),((2*c+b.toNat:Nat):Int),((l+1:Nat):Int),s',at',bad')) fun r=>match m2.bind (Zft ns f (l+1) (2*c+b.toNat)) with
   | some (i,l')=>∃a,r=.inr ((i:Int),s',a,false)∧Rs s' a false (some l')
   | none=>(∃a b,r=.inl (s',a,b)∧∃m',Rs s' a b m')∨(∃k a,k<ns.length∧r=.inr ((k:Int),s',a,true)∧Rs s' a true none):=fun m2 h4=>Znn hs ns hn h15 f (l+1) _ at' bad' m2 (by omega) (by omega) (by rw [Nat.pow_succ];omega) h4
  have hfail:Rs s' at' bad' none→m.bind (Zft ns (f+1) l c)=none→Ret (match (match ZeW ns ns.length (2*c+b.toNat) l with
     | some k=>(Sum.inr (Sum.inr ((k:Int),s',at',bad')):(List Int×List Int×Int×Int×Str×Int×Bool)⊕((Str×Int×Bool)⊕(Int×Str×Int×Bool)))
     | none=>.inl (zs ns,zs (ZbW ns),((2*c+b.toNat:Nat):Int),(l:Int),s',at',bad')) with
    | .inl (lens3,codes_3,code_2,n2,o6,o7,o8)=>ZaS.l1 (f+1) (lens3,codes_3,code_2,w64 (n2+1),o6,o7,o8)
    | .inr r=>some r) fun r=>match m.bind (Zft ns (f+1) l c) with
   | some (i,l')=>∃a,r=.inr ((i:Int),s',a,false)∧Rs s' a false (some l')
   | none=>(∃a b,r=.inl (s',a,b)∧∃m',Rs s' a b m')∨(∃k a,k<ns.length∧r=.inr ((k:Int),s',a,true)∧Rs s' a true none):=fun h4 e=>by
   rw [e]
   have hbad:bad'=true:=h4.1
   subst hbad
   cases hfi:ZeW ns ns.length (2*c+b.toNat) l with
   | some k=>exact .pure (.inr ⟨k,at',(ZhP hfi).1,rfl,h4⟩)
   | none=>
    dsimp only
    rw [Zdx (by omega)]
    exact go none h4
  cases m with
  | none=>exact absurd h.1 (by simp)
  | some lst=>
   cases lst with
   | nil=>exact hfail h2 rfl
   | cons b' l0=>
    have hbb:=h3 b' l0 rfl
    subst hbb
    have hbad:bad'=false:=h2.1
    subst hbad
    simp only [Option.bind_some,Zft]
    cases hfi:ZeW ns ns.length (2*c+b.toNat) l with
    | some i=>exact .pure ⟨at',rfl,h2⟩
    | none=>
     dsimp only
     rw [Zdx (by omega)]
     exact go (some l0) h2
theorem ZjE {s:Str} {at_:Int} {bad:Bool} {m:Option (List Bool)} (hs:s.length≤1000000000) (ns:List Nat) (hn:ns.length≤1000) (h15:∀n∈ns,n≤15) (h:Rs s at_ bad m) :
  Ret (ZaS (zs ns) (zs (ZbW ns)) s at_ bad) fun r=>r.2.1=s∧Zx6 s ns.length (ZkD ns m) r.1 r.2.2.1 r.2.2.2:=by
 unfold ZaS
 have h0:=Znn hs ns hn h15 15 1 0 at_ bad m (by omega) (by omega) (by omega) h
 rw [show ((15:Int)-1).toNat+2=15+1 from rfl]
 refine .bind h0 fun r hr=>?_
 unfold ZkD
 cases hm:m.bind (Zft ns 15 1 0) with
 | none=>
  rw [hm] at hr
  rcases hr with ⟨a,b,rfl,m',h'⟩ | ⟨k,a,hk,rfl,h'⟩
  ·exact Ret.pure ⟨rfl,by dsimp only;omega,by dsimp only;omega,h'.fail⟩
  ·exact Ret.pure ⟨rfl,by dsimp only;omega,by dsimp only;omega,h'⟩
 | some x=>
  obtain ⟨i,l'⟩:=x
  rw [hm] at hr
  obtain ⟨a,rfl,h'⟩:=hr
  exact .pure ⟨rfl,rfl,h'⟩
end Ev
end
section
namespace Ev
open Go
def krU (L:Nat):List Nat→Nat
 | []=>0
 | n::r=>(if 0<n∧n≤L then 2^(15-n) else 0)+krU L r
theorem Zyd (L:Nat):∀ns,krU L ns≤Zbs ns
 | []=>Nat.le_refl _
 | n::r=>by
  have:=Zyd L r
  simp only [krU,Zbs]
  by_cases h:0<n∧n≤L
  ·rw [if_pos h,if_pos h.1];omega
  ·have:=Nat.two_pow_pos (15-n);rw [if_neg h];split<;>omega
theorem ZoX (L:Nat):∀ns:List Nat,krU (L+1) ns=krU L ns+ns.count (L+1)*2^(15-(L+1))
 | []=>by simp [krU]
 | n::r=>by
  have ih:=ZoX L r
  simp only [krU,List.count_cons,ih]
  by_cases h:n=L+1
  ·subst h
   rw [if_pos (by omega),if_neg (by omega)]
   simp only [beq_self_eq_true,if_true,Nat.add_mul,Nat.one_mul];omega
  ·have hb:(n==L+1)=false:=by simp [h]
   rw [hb]
   simp only [Bool.false_eq_true,if_false,Nat.add_zero]
   by_cases h2:0<n∧n≤L
   ·rw [if_pos h2,if_pos (by omega)];omega
   ·rw [if_neg h2,if_neg (by omega)];omega
theorem Zs7:∀ns:List Nat,krU 0 ns=0
 | []=>rfl
 | n::r=>by simp only [krU,Zs7 r];rw [if_neg (by omega)]
theorem ZwC (ns:List Nat):∀L,L+1≤15→(base ns (L+1)+ns.count (L+1))*2^(15-(L+1))=krU (L+1) ns
 | 0,_=>by
  rw [ZoX,Zs7];simp [base]
 | L+1,h=>by
  have ih:=ZwC ns L (by omega)
  rw [ZoX,←ih]
  have e:base ns (L+1+1)=2*(base ns (L+1)+ns.count (L+1)):=rfl
  rw [e,Nat.add_mul,Nat.mul_comm 2,Nat.mul_assoc]
  congr 2
  rw [show 15-(L+1)=(15-(L+1+1))+1 by omega,Nat.pow_succ,Nat.mul_comm]
theorem ZwB (ns:List Nat) (hk:Zbs ns≤32768) (L:Nat) (h1:1≤L) (h15:L≤15):base ns L+ns.count L≤2^L:=by
 obtain ⟨l,rfl⟩:∃l,L=l+1:=⟨L-1,by omega⟩
 have h:=ZwC ns l h15
 have h2:=Zyd (l+1) ns
 have:(base ns (l+1)+ns.count (l+1))*2^(15-(l+1))≤2^(l+1)*2^(15-(l+1)):=by
  rw [h,←Nat.pow_add,show l+1+(15-(l+1))=15 by omega]
  omega
 exact Nat.le_of_mul_le_mul_right this (Nat.two_pow_pos _)
theorem Zpk (ns:List Nat) (i:Nat) (hi:i<ns.length):(ns.take i).count (ns.getD i 0)<ns.count (ns.getD i 0):=by
 have h:=Zem ns (ns.getD i 0) i hi
 rw [if_pos rfl] at h
 have:(ns.take (i+1)).count (ns.getD i 0)≤ns.count (ns.getD i 0):=(List.take_sublist _ _).count_le _
 omega
theorem Zrj (ns:List Nat) (i:Nat) (hi:i<ns.length):Zdi ns i<base ns (ns.getD i 0)+ns.count (ns.getD i 0):=by
 have:=Zpk ns i hi
 unfold Zdi;omega
theorem Ztw (ns:List Nat) (hk:Zbs ns≤32768) (h15:∀n∈ns,n≤15) (i:Nat) (hi:i<ns.length) (h0:0<ns.getD i 0):Zdi ns i<2^(ns.getD i 0):=by
 have hm:ns.getD i 0≤15:=by rw [Zal hi];exact h15 _ (List.getElem_mem hi)
 have h1:=Zrj ns i hi
 have h2:=ZwB ns hk _ h0 hm
 omega
theorem ZwA (ns:List Nat) (l:Nat) (h1:1≤l):∀d,(base ns l+ns.count l)*2^(d+1)≤base ns (l+d+1)
 | 0=>by
  obtain ⟨k,rfl⟩:∃k,l=k+1:=⟨l-1,by omega⟩
  have e:base ns (k+1+0+1)=2*(base ns (k+1)+ns.count (k+1)):=rfl
  rw [e];omega
 | d+1=>by
  have ih:=ZwA ns l h1 d
  obtain ⟨k,rfl⟩:∃k,l=k+1:=⟨l-1,by omega⟩
  have e:base ns (k+1+(d+1)+1)=2*(base ns (k+1+d+1)+ns.count (k+1+d+1)):=by
   rw [show k+1+(d+1)+1=(k+d+1)+2 by omega,show k+1+d+1=k+d+1+1 by omega];rfl
  rw [e,Nat.pow_succ,←Nat.mul_assoc];omega
theorem ZsL (c L:Nat):∀l,l<L→(msb c L).drop l=c.testBit (L-1-l)::(msb c L).drop (l+1):=fun l hl=>by
 have hlen:(msb c L).length=L:=by simp [msb,Zaj]
 rw [List.drop_eq_getElem_cons (by omega)]
 congr 1
 simp only [msb]
 rw [List.getElem_reverse]
 simp only [Zaj]
 exact ZiM c L _ (by omega)
theorem Zni (ns:List Nat) (hk:Zbs ns≤32768) (h15:∀n∈ns,n≤15) (i:Nat) (hi:i<ns.length) (h0:0<ns.getD i 0) (rest:List Bool):∀(d l:Nat),l+d=ns.getD i 0→1≤l→
  Zft ns (16-l) l (Zdi ns i/2^(d+1)) ((msb (Zdi ns i) (ns.getD i 0)).drop (l-1)++rest)=some (i,rest)
 | 0,l,hl,h1=>by
  have hm:ns.getD i 0≤15:=by rw [Zal hi];exact h15 _ (List.getElem_mem hi)
  have hL:l=ns.getD i 0:=by omega
  rw [ZsL _ _ (l-1) (by omega),show 16-l=(15-l)+1 by omega]
  simp only [List.cons_append,Zft]
  have e:2*(Zdi ns i/2^(0+1))+(Nat.testBit (Zdi ns i) (ns.getD i 0-1-(l-1))).toNat=Zdi ns i:=by
   rw [show ns.getD i 0-1-(l-1)=0 by omega,←ZdU];simp;omega
  rw [e,hL,Zpb (Nat.le_refl _) hi h0]
  dsimp only
  rw [List.drop_eq_nil_of_le (by simp [msb,Zaj];omega)];rfl
 | d+1,l,hl,h1=>by
  have hm:ns.getD i 0≤15:=by rw [Zal hi];exact h15 _ (List.getElem_mem hi)
  have ih:=Zni ns hk h15 i hi h0 rest d (l+1) (by omega) (by omega)
  rw [ZsL _ _ (l-1) (by omega),show 16-l=(16-(l+1))+1 by omega]
  simp only [List.cons_append,Zft]
  have e:2*(Zdi ns i/2^(d+1+1))+(Nat.testBit (Zdi ns i) (ns.getD i 0-1-(l-1))).toNat=Zdi ns i/2^(d+1):=by
   rw [show ns.getD i 0-1-(l-1)=d+1 by omega,←ZdU,Nat.pow_succ 2 (d+1),←Nat.div_div_eq_div_mul];omega
  rw [e]
  have hnone:ZeW ns ns.length (Zdi ns i/2^(d+1)) l=none:=by
   cases hf:ZeW ns ns.length (Zdi ns i/2^(d+1)) l with
   | none=>rfl
   | some j=>
    obtain ⟨hj,hj0,hjl,hjc⟩:=ZhP hf
    have t1:=Zrj ns j hj
    rw [hjl,hjc] at t1
    have t2:=ZwA ns l h1 d
    have t3:base ns (l+d+1)≤Zdi ns i:=by unfold Zdi;rw [show ns.getD i 0=l+d+1 by omega];omega
    have:(Zdi ns i/2^(d+1))+1≤base ns l+ns.count l:=t1
    have t4:=Nat.mul_le_mul_right (2^(d+1)) this
    have t5:=Nat.lt_mul_div_succ (Zdi ns i) (Nat.two_pow_pos (d+1))
    rw [Nat.mul_comm] at t5
    omega
  rw [hnone]
  dsimp only
  rw [show l-1+1=l+1-1 by omega]
  exact ih
theorem Zvx (ns:List Nat) (hk:Zbs ns≤32768) (h15:∀n∈ns,n≤15) (i:Nat) (hi:i<ns.length) (h0:0<ns.getD i 0) (rest:List Bool) :
  ZkD ns (some (msb (Zdi ns i) (ns.getD i 0)++rest))=some (i,rest):=by
 have h:=Zni ns hk h15 i hi h0 rest (ns.getD i 0-1) 1 (by omega) (by omega)
 have hlt:=Ztw ns hk h15 i hi h0
 rw [show ns.getD i 0-1+1=ns.getD i 0 by omega,Nat.div_eq_of_lt hlt] at h
 simpa [ZkD] using h
def ZiA (ns:List Nat) (i:Nat):List Bool:=msb ((ZbW ns).getD i 0) (ns.getD i 0)
theorem Zys (ns:List Nat) (h15:∀n∈ns,n≤15) (i:Nat) (hi:i<ns.length) (h0:0<ns.getD i 0):ZiA ns i=msb (Zdi ns i) (ns.getD i 0):=by
 unfold ZiA;rw [ZgC ns h15 i hi h0]
theorem Zri (ns:List Nat) (hk:Zbs ns≤32768) (h15:∀n∈ns,n≤15) (i:Nat) (hi:i<ns.length):(ZbW ns).getD i 0<2^(ns.getD i 0):=by
 by_cases h0:0<ns.getD i 0
 ·rw [ZgC ns h15 i hi h0];exact Ztw ns hk h15 i hi h0
 ·have e:(ZbW ns).getD i 0=0:=by
   rw [Zal (by rw [Zdh];exact hi)]
   simp only [ZbW,ZeZ,List.getElem_map,List.getElem_range]
   rw [if_neg (by omega)]
  rw [e];exact Nat.two_pow_pos _
theorem ZiB (ns:List Nat) (hk:Zbs ns≤32768) (h15:∀n∈ns,n≤15) (i:Nat) (hi:i<ns.length) (l:List Bool) (hl:l.length≤80000000) :
  Zf5 (zs ns) (zs (ZbW ns)) (i:Int) (l.length:Int) (Zfe l)=some ((((l++ZiA ns i).length:Nat):Int),Zfe (l++ZiA ns i)):=by
 have hm:ns.getD i 0≤15:=by rw [Zal hi];exact h15 _ (List.getElem_mem hi)
 have hlt:=Zri ns hk h15 i hi
 have hp:2^(ns.getD i 0)≤2^15:=Nat.pow_le_pow_right (by omega) hm
 have ht:=Zov ((ZbW ns).getD i 0) (ns.getD i 0)
 unfold Zf5
 rw [Zag,Zag,Zdh,Zab _ (Zax hi),Zab _ (Zax hi),Int.toNat_natCast,ZaE,ZaE,Zsl _ _ (by omega) hlt]
 simp only [Zae]
 rw [Zab _ (Zax hi),Zew _ _ (by omega) (by omega) l (by omega),Zqd]
 rfl
theorem ZlH (ns:List Nat) (hk:Zbs ns≤32768) (h15:∀n∈ns,n≤15) (i:Nat) (hi:i<ns.length) (l:List Bool) (hl:l.length≤80000000) :
  ZmY (zs ns) (zs (ZbW ns)) (i:Int) (oL l:Int) ((l.length%8:Nat):Int) (oT l)=some ((oL (l++ZiA ns i):Int),(((l++ZiA ns i).length%8:Nat):Int),oT (l++ZiA ns i)):=by
 have hm:ns.getD i 0≤15:=by rw [Zal hi];exact h15 _ (List.getElem_mem hi)
 have hlt:=Zri ns hk h15 i hi
 have hp:2^(ns.getD i 0)≤2^15:=Nat.pow_le_pow_right (by omega) hm
 have ht:=Zov ((ZbW ns).getD i 0) (ns.getD i 0)
 unfold ZmY ZeD
 rw [Zag,Zag,Zdh,Zab _ (Zax hi),Zab _ (Zax hi),Int.toNat_natCast,ZaE,ZaE,ZvP _ _ (by omega) (by omega)]
 simp only [Zae]
 rw [Zab _ (Zax hi)]
 simp only [Zae]
 rw [Zed _ _ (by omega) (by omega) l (by omega),Zqd]
 rfl
end Ev
end
section
namespace Ev
open Go
def Zre (k:Nat):Nat→List Int→List Int
 | 0,out=>out
 | n+1,out=>Zre k n (out++[out.getD (out.length-k) 0])
def Zpt (out:List Int) (l k:Nat):Option (List Int):=if l≤60∧k≤250∧k≤out.length then some (Zre k l out) else none
theorem ZkK (k:Nat):∀n out,(Zre k n out).length=out.length+n
 | 0,out=>rfl
 | n+1,out=>by rw [Zre,ZkK k n];simp;omega
theorem Zyl (b:Int) (l k:Nat) (hk:1≤k) (hl:l≤1000):∀(j i:Nat) (out:List Int),i+j=l→k≤out.length→out.length+j≤1000000→
  add.l0 (j+1) ((l:Int),(i:Int),out,b,(l:Int),(k:Int))=some (Zre k j out)
 | 0,i,out,hi,h1,h2=>by
  rw [add.l0.succ];simp only [add.l0.step]
  rw [ZaZ (by omega)];rfl
 | j+1,i,out,hi,h1,h2=>by
  rw [add.l0.succ];simp only [add.l0.step]
  rw [ZaY (by omega),cond_true,Zaf (n:=(out.length:Int)-k) (by omega) (by omega),show (out.length:Int)-k=((out.length-k:Nat):Int) by omega,
   Zab _ (Zax (by omega)),Int.toNat_natCast,Zad (by simp;omega),Zaf (by omega) (by omega),show (i:Int)+1=((i+1:Nat):Int) by omega,
   Zyl b l k hk hl j (i+1) _ (by omega) (by simp;omega) (by simp;omega)]
  rfl
theorem Zs1 (b:Int) (l k:Nat) (hk:1≤k) (hl:l≤1000):∀(j i:Nat) (out:List Int),i+j=l→k≤out.length→out.length+j≤1000000→
  ZeC.l0 (j+1) ((i:Int),out,b,(l:Int),(k:Int))=some (Zre k j out)
 | 0,i,out,hi,h1,h2=>by
  rw [ZeC.l0.succ];simp only [ZeC.l0.step]
  rw [ZaZ (by omega)];rfl
 | j+1,i,out,hi,h1,h2=>by
  rw [ZeC.l0.succ];simp only [ZeC.l0.step]
  rw [ZaY (by omega),cond_true,Zaf (n:=(out.length:Int)-k) (by omega) (by omega),show (out.length:Int)-k=((out.length-k:Nat):Int) by omega,
   Zab _ (Zax (by omega)),Int.toNat_natCast,Zad (by simp;omega),Zaf (by omega) (by omega),show (i:Int)+1=((i+1:Nat):Int) by omega,
   Zs1 b l k hk hl j (i+1) _ (by omega) (by simp;omega) (by simp;omega)]
  rfl
theorem ZkX (a b:Nat):ZkC (a:Int) (b:Int)=((min a b:Nat):Int):=by
 unfold ZkC
 by_cases h:(b:Int)<(a:Int)
 ·rw [if_pos h];omega
 ·rw [if_neg h];omega
theorem Zy3 (l k:Nat) (out:List Int) (hl:3≤l) (hk:1≤k) (ho:out.length≤100000) :
  add 0 (l:Int) (k:Int) out=some ((Zpt out l k).isSome,(Zpt out l k).getD []):=by
 unfold add Zpt
 rw [show (250:Int)=((250:Nat):Int) from rfl,ZkX]
 simp only [ZdI,Zae]
 rw [show (((l:Nat):Int)==0)=false by simp;omega,show ((0:Int) != 0)=false from rfl]
 simp only [cond_false]
 by_cases h60:l≤60
 ·rw [show decide ((3:Int)≤(l:Int)∧(l:Int)≤60)=true by simp;omega]
  simp only [Bool.not_true,cond_false,Zae]
  by_cases hb:k≤250∧k≤out.length
  ·rw [show decide ((1:Int)≤(k:Int)∧(k:Int)≤((min 250 out.length:Nat):Int))=true by simp;omega,if_pos ⟨h60,hb⟩]
   simp only [Bool.not_true,cond_false]
   rw [Int.sub_zero,Int.toNat_natCast]
   have:=Zyl 0 l k hk (by omega) l 0 out (by omega) hb.2 (by omega)
   rw [show ((0:Nat):Int)=0 from rfl] at this
   rw [this];rfl
  ·rw [show decide ((1:Int)≤(k:Int)∧(k:Int)≤((min 250 out.length:Nat):Int))=false by simp;omega,if_neg (fun e=>hb e.2)]
   rfl
 ·rw [show decide ((3:Int)≤(l:Int)∧(l:Int)≤60)=false by simp;omega,if_neg (fun e=>h60 e.1)]
  rfl
theorem ZvM (l k:Nat) (out:List Int) (hl:3≤l) (hk:1≤k) (ho:out.length≤100000) :
  ZeC 0 (l:Int) (k:Int) out=some ((Zpt out l k).isSome,(Zpt out l k).getD out):=by
 unfold ZeC Zpt
 simp only [Zk0,Zae]
 rw [show (((l:Nat):Int)==0)=false by simp;omega,show ((0:Int) != 0)=false from rfl]
 simp only [cond_false]
 by_cases h60:l≤60
 ·rw [show decide ((3:Int)≤(l:Int)∧(l:Int)≤60)=true by simp;omega]
  simp only [Bool.not_true,cond_false,Zae]
  by_cases h2:k≤250
  ·rw [show decide ((1:Int)≤(k:Int)∧(k:Int)≤250)=true by simp;omega]
   simp only [Bool.not_true,cond_false,Zae]
   by_cases hb:k≤out.length
   ·rw [show decide ((k:Int)>(out.length:Int))=false by simp;omega,if_pos ⟨h60,h2,hb⟩]
    simp only [cond_false]
    rw [Int.sub_zero,Int.toNat_natCast]
    have:=Zs1 0 l k hk (by omega) l 0 out (by omega) hb (by omega)
    rw [show ((0:Nat):Int)=0 from rfl] at this
    rw [this];rfl
   ·rw [show decide ((k:Int)>(out.length:Int))=true by simp;omega,if_neg (fun e=>hb e.2.2)];rfl
  ·rw [show decide ((1:Int)≤(k:Int)∧(k:Int)≤250)=false by simp;omega,if_neg (fun e=>h2 e.2.1)];rfl
 ·rw [show decide ((3:Int)≤(l:Int)∧(l:Int)≤60)=false by simp;omega,if_neg (fun e=>h60 e.1)];rfl
inductive Tk where
 | lit (c:Nat)
 | far (l k:Nat)
def Tk.z:Tk→Int×Int×Int
 | .lit c=>((c:Int),0,0)
 | .far l k=>(0,(l:Int),(k:Int))
def agM (s:Str) (a k:Nat):Nat→Nat→Nat
 | 0,n=>n
 | f+1,n=>if a+n<s.length∧n<60∧s.getD (a+n) 0=s.getD (a+n-k) 0 then agM s a k f (n+1) else n
def ZcH (s:Str) (a:Nat):Nat→Nat×Nat
 | 0=>(0,0)
 | m+1=>if (ZcH s a m).1<agM s a (m+1) 60 0 then (agM s a (m+1) 60 0,m+1) else ZcH s a m
def Zjq (s:Str) (a:Nat):Tk:=if (ZcH s a (min 250 a)).1<3 then .lit (s.getD a 0).toNat else .far (ZcH s a (min 250 a)).1 (ZcH s a (min 250 a)).2
def Tk.long:Tk→Nat
 | .lit _=>1
 | .far l _=>l
def ZeN (s:Str):Nat→Nat→List Tk
 | 0,_=>[]
 | f+1,a=>if a<s.length then Zjq s a::ZeN s f (a+(Zjq s a).long) else []
theorem ZwE (s:Str) (a k:Nat):∀f n,n≤60→n≤agM s a k f n∧agM s a k f n≤60
 | 0,n,h=>⟨Nat.le_refl _,h⟩
 | f+1,n,h=>by
  rw [agM]
  by_cases c:a+n<s.length∧n<60∧s.getD (a+n) 0=s.getD (a+n-k) 0
  ·rw [if_pos c];have:=ZwE s a k f (n+1) (by omega);omega
  ·rw [if_neg c];omega
theorem ZtE (s:Str) (a k:Nat):∀f n i,n≤i→i<agM s a k f n→a+i<s.length∧s.getD (a+i) 0=s.getD (a+i-k) 0
 | 0,n,i,h1,h2=>by simp only [agM] at h2;omega
 | f+1,n,i,h1,h2=>by
  rw [agM] at h2
  by_cases c:a+n<s.length∧n<60∧s.getD (a+n) 0=s.getD (a+n-k) 0
  ·rw [if_pos c] at h2
   by_cases e:i=n
   ·subst e;exact ⟨c.1,c.2.2⟩
   ·exact ZtE s a k f (n+1) i (by omega) h2
  ·rw [if_neg c] at h2;omega
theorem Zkh (s:Str) (a:Nat):∀m,(ZcH s a m).1≤60∧(ZcH s a m).2≤m∧(0<(ZcH s a m).1→1≤(ZcH s a m).2∧(ZcH s a m).1=agM s a (ZcH s a m).2 60 0)
 | 0=>by simp [ZcH]
 | m+1=>by
  have ih:=Zkh s a m
  have hl:=ZwE s a (m+1) 60 0 (by omega)
  rw [ZcH]
  by_cases c:(ZcH s a m).1<agM s a (m+1) 60 0
  ·rw [if_pos c];exact ⟨hl.2,Nat.le_refl _,fun _=>⟨Nat.le_add_left _ _,rfl⟩⟩
  ·rw [if_neg c];exact ⟨ih.1,by omega,ih.2.2⟩
theorem u8_eq (x y:UInt8):(((x.toNat:Int))==((y.toNat:Int)))=decide (x=y):=by
 by_cases h:x=y
 ·subst h;simp
 ·have:x.toNat≠y.toNat:=fun e=>h (UInt8.toNat_inj.1 e)
  rw [decide_eq_false h];simp;omega
theorem Zon {α:Type} (s:Str) (hs:s.length≤1000) (a k n:Nat) (ha:a≤1000) (hk:k≤a) (hn:n<60) (x y:Option α) :
  ((bif decide (w64 ((a:Int)+(n:Int))<(s.length:Int)) then (need (decide (0≤(w64 ((a:Int)+(n:Int))))&&decide ((w64 ((a:Int)+(n:Int)))<s.length)) (need (decide (0≤(w64 ((w64 ((a:Int)+(n:Int)))-(k:Int))))&&decide ((w64 ((w64 ((a:Int)+(n:Int)))-(k:Int)))<s.length)) (some (((s.getD (w64 ((a:Int)+(n:Int))).toNat 0).toNat:Int)==((s.getD (w64 ((w64 ((a:Int)+(n:Int)))-(k:Int))).toNat 0).toNat:Int))))) else
 (some false)).bind fun c=>bif c then x else y)=if a+n<s.length∧n<60∧s.getD (a+n) 0=s.getD (a+n-k) 0 then x else y:=by
 have e1:w64 ((a:Int)+(n:Int))=((a+n:Nat):Int):=by rw [Zaf]<;>omega
 have e2:w64 (((a+n:Nat):Int)-(k:Int))=((a+n-k:Nat):Int):=by rw [Zaf]<;>omega
 rw [e1,e2]
 by_cases h1:a+n<s.length
 ·rw [Zab _ (Zax h1),Zab _ (Zax (by omega)),decide_eq_true (show (((a+n:Nat):Int)<(s.length:Int)) by omega),Int.toNat_natCast,Int.toNat_natCast,u8_eq,cond_true]
  simp only [Zae,Zbo]
  by_cases h2:s.getD (a+n) 0=s.getD (a+n-k) 0
  ·rw [if_pos h2,if_pos ⟨h1,hn,h2⟩]
  ·rw [if_neg h2,if_neg (fun e=>h2 e.2.2)]
 ·rw [if_neg (fun e=>h1 e.1),decide_eq_false (show ¬(((a+n:Nat):Int)<(s.length:Int)) by omega)];rfl
theorem ZnR (s:Str) (hs:s.length≤1000) (a k:Nat) (ha:a≤1000) (hk:k≤a):∀(j f n:Nat),n+j=60→j≤f→Zb6.l0 (f+1) (s,(a:Int),(k:Int),(n:Int))=some (agM s a k j n:Int)
 | 0,f,n,h,hf=>by
  rw [Zb6.l0.succ];simp only [Zb6.l0.step,agM]
  have hn:n=60:=by omega
  subst hn
  rw [show decide (((60:Nat):Int)<60)=false by decide]
  simp only [cond_false]
  cases decide (w64 ((a:Int)+((60:Nat):Int))<(s.length:Int))<;>rfl
 | j+1,0,n,h,hf=>by omega
 | j+1,f+1,n,h,hf=>by
  rw [Zb6.l0.succ];simp only [Zb6.l0.step]
  rw [agM,decide_eq_true (show ((n:Int)<60) by omega),cond_true,Zon s hs a k n ha hk (by omega),Zaf (by omega) (by omega),show (n:Int)+1=((n+1:Nat):Int) by omega,
   ZnR s hs a k ha hk j f (n+1) (by omega) (by omega)]
  split<;>rfl
theorem Zug (s:Str) (hs:s.length≤1000) (a k:Nat) (ha:a≤1000) (hk:k≤a):Zb6 s (a:Int) (k:Int)=some (agM s a k 60 0:Int):=by
 unfold Zb6
 have h:=ZnR s hs a k ha hk 60 61 0 rfl (by omega)
 rw [show ((0:Nat):Int)=0 from rfl] at h
 rw [h];rfl
theorem Zlh (s:Str) (hs:s.length≤1000) (a k:Nat) (ha:a≤1000) (hk:k≤a) (out:List (Int×Int×Int)) (o3 o4 o5:Int):∀(j n:Nat),n+j=60→
  Zap.l0 (j+1) (s,(a:Int),(k:Int),(n:Int),out,o3,o4,o5)=some (s,(a:Int),(k:Int),(agM s a k j n:Int),out,o3,o4,o5)
 | 0,n,h=>by
  rw [Zap.l0.succ];simp only [Zap.l0.step,agM]
  have hn:n=60:=by omega
  subst hn
  rfl
 | j+1,n,h=>by
  rw [Zap.l0.succ];simp only [Zap.l0.step]
  rw [agM,decide_eq_true (show ((n:Int)<60) by omega),cond_true,Zon s hs a k n ha hk (by omega),Zaf (by omega) (by omega),show (n:Int)+1=((n+1:Nat):Int) by omega,
   Zlh s hs a k ha hk out o3 o4 o5 j (n+1) (by omega)]
  split<;>rfl
def Zpo (c:Int) (b:Nat×Nat):Int×Int×Int:=if b.1<3 then (c,0,0) else (0,(b.1:Int),(b.2:Int))
theorem ZuD (c:Int) (b:Nat×Nat) (n k:Nat):(Zpo c (if b.1<n then (n,k) else b))=if 3≤n∧(Zpo c b).2.1<(n:Int) then (0,(n:Int),(k:Int)) else Zpo c b:=by
 unfold Zpo
 by_cases h1:b.1<n<;>by_cases h2:b.1<3<;>by_cases h3:n<3 <;>
  simp only [h1,h2,h3,if_true,if_false]<;>(first | (exfalso;omega) | (rw [if_pos (by simp;omega)]) | (rw [if_neg (by simp;omega)]) | rfl)
theorem ZgI (s:Str) (hs:s.length≤1000) (a:Nat) (ha:a≤1000) (out:List (Int×Int×Int)) (c:Int):∀(j m:Nat),m+j=min 250 a→∀(b:Int×Int×Int),b=Zpo c (ZcH s a m)→
  Zap.l1 (j+1) (s,(a:Int),((m+1:Nat):Int),out,b)=some (s,(a:Int),out,Zpo c (ZcH s a (min 250 a)))
 | 0,m,h,(b1,b2,b3),hb=>by
  have hm:m=min 250 a:=by omega
  subst hm
  rw [Zap.l1.succ];simp only [Zap.l1.step]
  rw [show (250:Int)=((250:Nat):Int) from rfl,ZkX,decide_eq_false (by omega),hb];rfl
 | j+1,m,h,(b1,b2,b3),hb=>by
  rw [Zap.l1.succ];simp only [Zap.l1.step]
  have h0:=Zlh s hs a (m+1) ha (by omega) out b1 b2 b3 60 0 (by omega)
  rw [show ((0:Nat):Int)=0 from rfl] at h0
  rw [show (250:Int)=((250:Nat):Int) from rfl,ZkX,decide_eq_true (by omega),cond_true,show ((60:Int)-0).toNat=60 from rfl,h0]
  have ha2:=ZwE s a (m+1) 60 0 (by omega)
  simp only [Zae]
  rw [Zaf (by omega) (by omega),show ((m+1:Nat):Int)+1=((m+1+1:Nat):Int) by omega]
  have hn:=ZuD c (ZcH s a m) (agM s a (m+1) 60 0) (m+1)
  have e:ZcH s a (m+1)=if (ZcH s a m).1<agM s a (m+1) 60 0 then (agM s a (m+1) 60 0,m+1) else ZcH s a m:=rfl
  rw [←e,←hb] at hn
  dsimp only at hn
  by_cases h3:3≤agM s a (m+1) 60 0
  ·rw [show decide (((agM s a (m+1) 60 0:Nat):Int)≥3)=true by simp;omega]
   simp only [cond_true,Zae,Zbo]
   by_cases h4:b2<((agM s a (m+1) 60 0:Nat):Int)
   ·rw [if_pos ⟨h3,h4⟩] at hn
    rw [if_pos (show ((agM s a (m+1) 60 0:Nat):Int)>b2 from h4)]
    exact ZgI s hs a ha out c j (m+1) (by omega) _ hn.symm
   ·rw [if_neg (fun e=>h4 e.2)] at hn
    rw [if_neg (show ¬((agM s a (m+1) 60 0:Nat):Int)>b2 from h4)]
    exact ZgI s hs a ha out c j (m+1) (by omega) _ hn.symm
  ·rw [show decide (((agM s a (m+1) 60 0:Nat):Int)≥3)=false by simp;omega]
   rw [if_neg (fun e=>h3 e.1)] at hn
   simp only [cond_false,Zae]
   exact ZgI s hs a ha out c j (m+1) (by omega) _ hn.symm
theorem Zwz (s:Str) (a:Nat):Zpo ((s.getD a 0).toNat:Int) (ZcH s a (min 250 a))=(Zjq s a).z:=by
 unfold Zpo Zjq
 split<;>rfl
theorem Zxm (x:Int) (h:1≤x):ZnC x 1=x:=by
 unfold ZnC;split<;>omega
theorem Zlj (s:Str) (a:Nat):1≤(Zjq s a).long∧(Zjq s a).long≤60∧ZnC (Zjq s a).z.2.1 1=((Zjq s a).long:Int):=by
 have h:=Zkh s a (min 250 a)
 unfold Zjq
 by_cases c:(ZcH s a (min 250 a)).1<3
 ·rw [if_pos c];exact ⟨Nat.le_refl _,by simp [Tk.long],by simp [Tk.z,Tk.long,ZnC]⟩
 ·rw [if_neg c]
  exact ⟨by simp only [Tk.long];omega,h.1,Zxm _ (by simp only [Tk.z];omega)⟩
theorem Zlg (s:Str) (hs:s.length≤300):∀(j a:Nat),s.length≤a+j→a≤600→∀out:List (Int×Int×Int),out.length≤a→
  Zap.l2 (j+1) (s,(a:Int),out)=some (out++(ZeN s j a).map Tk.z)
 | 0,a,h,ha,out,ho=>by
  rw [Zap.l2.succ];simp only [Zap.l2.step]
  rw [ZaZ (by omega)];simp [ZeN]
 | j+1,a,h,ha,out,ho=>by
  rw [Zap.l2.succ];simp only [Zap.l2.step]
  by_cases hlt:a<s.length
  ·have h1:=ZgI s (by omega) a (by omega) out ((s.getD a 0).toNat:Int) (min 250 a) 0 (by omega) (((s.getD a 0).toNat:Int),0,0) (by simp [Zpo,ZcH])
   rw [show ((0+1:Nat):Int)=1 from rfl] at h1
   have hb:(s.getD a 0).toNat<256:=UInt8.toNat_lt _
   have hm:((ZkC 250 (a:Int))-1).toNat+2=min 250 a+1∨(min 250 a=0∧((ZkC 250 (a:Int))-1).toNat+2=2):=by
    rw [show (250:Int)=((250:Nat):Int) from rfl,ZkX];omega
   rw [ZaY hlt,cond_true,Zab _ ZaB,Int.toNat_natCast,Zaf (n:=((s.getD a 0).toNat:Int)) (by omega) (by omega)]
   have h1':Zap.l1 (((ZkC 250 (a:Int))-1).toNat+2) (s,(a:Int),1,out,((s.getD a 0).toNat:Int),0,0)=some (s,(a:Int),out,(Zjq s a).z):=by
    rw [←Zwz]
    rcases hm with e | ⟨e0,e⟩
    ·rw [e];exact h1
    ·rw [e]
     have a0:a=0:=by omega
     subst a0
     rfl
   rw [h1']
   obtain ⟨t1,t2,t3⟩:=Zlj s a
   rcases hz:(Zjq s a).z with ⟨z1,z2,z3⟩
   rw [hz] at t3
   simp only [Zae]
   dsimp only at t3
   rw [Zad (by simp;omega),t3,Zaf (by omega) (by omega),show (a:Int)+((Zjq s a).long:Int)=((a+(Zjq s a).long:Nat):Int) by omega,
    Zlg s hs j (a+(Zjq s a).long) (by omega) (by omega) _ (by simp;omega)]
   rw [ZeN,if_pos hlt,List.map_cons,hz];simp
  ·rw [ZaZ (by omega),ZeN,if_neg hlt];simp
def ZhY (s:Str):List Tk:=ZeN s s.length 0
theorem Zli (s:Str) (hs:s.length≤300):Zap s=some ((ZhY s).map Tk.z):=by
 unfold Zap
 rw [decide_eq_false (by omega),cond_false,ZaJ]
 have h:=Zlg s hs s.length 0 (by omega) (by omega) [] (by simp)
 rw [show ((0:Nat):Int)=0 from rfl] at h
 rw [h];simp [ZhY]
theorem Ziq (s:Str) (hs:s.length≤1000) (a:Nat) (ha:a≤1000) (out:List (Int×Int×Int)):∀(j f m:Nat),m+j=min 250 a→j≤f→∀(l k:Int),l=((ZcH s a m).1:Int)→k=((ZcH s a m).2:Int)→
  ZaH.l0 (f+1) (s,(a:Int),l,k,((m+1:Nat):Int),out)=some (s,(a:Int),((ZcH s a (min 250 a)).1:Int),((ZcH s a (min 250 a)).2:Int),out)
 | 0,f,m,h,hf,l,k,hl,hk=>by
  have hm:m=min 250 a:=by omega
  rw [ZaH.l0.succ];simp only [ZaH.l0.step]
  subst hl hk
  by_cases h1:m+1≤250
  ·rw [decide_eq_true (show (((m+1:Nat):Int)≤250) by omega),decide_eq_false (show ¬(((m+1:Nat):Int)≤(a:Int)) by omega),hm];rfl
  ·rw [decide_eq_false (show ¬(((m+1:Nat):Int)≤250) by omega),hm];rfl
 | j+1,0,m,h,hf,l,k,hl,hk=>by omega
 | j+1,f+1,m,h,hf,l,k,hl,hk=>by
  rw [ZaH.l0.succ];simp only [ZaH.l0.step]
  rw [decide_eq_true (show (((m+1:Nat):Int)≤250) by omega),decide_eq_true (show (((m+1:Nat):Int)≤(a:Int)) by omega)]
  simp only [cond_true,Zae]
  rw [Zug s hs a (m+1) ha (by omega)]
  simp only [Zae,Zbo]
  rw [Zaf (by omega) (by omega),show ((m+1:Nat):Int)+1=((m+1+1:Nat):Int) by omega]
  have e:ZcH s a (m+1)=if (ZcH s a m).1<agM s a (m+1) 60 0 then (agM s a (m+1) 60 0,m+1) else ZcH s a m:=rfl
  subst hl hk
  by_cases c:(ZcH s a m).1<agM s a (m+1) 60 0
  ·rw [if_pos (by omega)]
   rw [if_pos c] at e
   exact Ziq s hs a ha out j f (m+1) (by omega) (by omega) _ _ (by rw [e]) (by rw [e])
  ·rw [if_neg (by omega)]
   rw [if_neg c] at e
   exact Ziq s hs a ha out j f (m+1) (by omega) (by omega) _ _ (by rw [e]) (by rw [e])
theorem Zip (s:Str) (hs:s.length≤300):∀(j a:Nat),s.length≤a+j→a≤600→∀out:List (Int×Int×Int),out.length≤a→
  ZaH.l1 (j+1) (s,(a:Int),out)=some (out++(ZeN s j a).map Tk.z)
 | 0,a,h,ha,out,ho=>by
  rw [ZaH.l1.succ];simp only [ZaH.l1.step]
  rw [ZaZ (by omega)];simp [ZeN]
 | j+1,a,h,ha,out,ho=>by
  rw [ZaH.l1.succ];simp only [ZaH.l1.step]
  by_cases hlt:a<s.length
  ·have h1:=Ziq s (by omega) a (by omega) out (min 250 a) 250 0 (by omega) (by omega) 0 0 (by simp [ZcH]) (by simp [ZcH])
   rw [show ((0+1:Nat):Int)=1 from rfl] at h1
   have hb:(s.getD a 0).toNat<256:=UInt8.toNat_lt _
   obtain ⟨t1,t2,t3⟩:=Zlj s a
   rw [ZaY hlt,cond_true,show ((250:Int)-1).toNat+2=251 from rfl,h1]
   simp only [Zae,Zbo]
   rw [ZeN,if_pos hlt,List.map_cons]
   by_cases c:(ZcH s a (min 250 a)).1<3
   ·have et:Zjq s a=.lit (s.getD a 0).toNat:=by unfold Zjq;rw [if_pos c]
    rw [if_pos (by omega),Zab _ (Zax hlt),Zad (by simp;omega),Int.toNat_natCast,Zaf (n:=((s.getD a 0).toNat:Int)) (by omega) (by omega),Zaf (by omega) (by omega),
     show (a:Int)+1=((a+1:Nat):Int) by omega,Zip s hs j (a+1) (by omega) (by omega) _ (by simp;omega),et]
    simp [Tk.z,Tk.long]
   ·have et:Zjq s a=.far (ZcH s a (min 250 a)).1 (ZcH s a (min 250 a)).2:=by unfold Zjq;rw [if_neg c]
    rw [et] at t1 t2
    simp only [Tk.long] at t1 t2
    rw [if_neg (by omega),Zad (by simp;omega),Zaf (by omega) (by omega),
     show (a:Int)+((ZcH s a (min 250 a)).1:Int)=((a+(ZcH s a (min 250 a)).1:Nat):Int) by omega,Zip s hs j (a+(ZcH s a (min 250 a)).1) (by omega) (by omega) _ (by simp;omega),et]
    simp [Tk.z,Tk.long]
  ·rw [ZaZ (by omega),ZeN,if_neg hlt];simp
theorem ZlV (s:Str) (hs:s.length≤300):ZaH s=some ((ZhY s).map Tk.z):=by
 unfold ZaH
 rw [ZaJ]
 have h:=Zip s hs s.length 0 (by omega) (by omega) [] (by simp)
 rw [show ((0:Nat):Int)=0 from rfl] at h
 rw [h];simp [ZhY]
end Ev
end
section
namespace Ev
open Go
def ints (s:Str):List Int:=s.map fun c=>(c.toNat:Int)
theorem ZdC (s:Str):(ints s).length=s.length:=by simp [ints]
theorem ZvY (s:Str) (i:Nat):(ints s).getD i 0=((s.getD i 0).toNat:Int):=by
 by_cases h:i<s.length
 ·rw [Zal (by rw [ZdC];exact h),Zal h];simp [ints]
 ·simp [ints,List.getD,Nat.le_of_not_lt h]
theorem Zl4 (s t:Str):ints (s++t)=ints s++ints t:=by simp [ints]
theorem Zjy {α:Type} (s:List α) (n:Nat) (d:α) (h:n<s.length):s.take (n+1)=s.take n++[s.getD n d]:=by
 rw [List.take_succ_eq_append_getElem h,Zal h]
theorem ZuU {α:Type} (s:List α) (n i:Nat) (d:α) (h:i<n):(s.take n).getD i d=s.getD i d:=by
 simp [List.getD,List.getElem?_take,h]
theorem Zrd (s:Str) (a l k:Nat) (hk:1≤k) (hka:k≤a) (h:∀i,i<l→a+i<s.length∧s.getD (a+i) 0=s.getD (a+i-k) 0):∀(j i:Nat),i+j=l→
  Zre k j (ints (s.take (a+i)))=ints (s.take (a+l))
 | 0,i,hi=>by rw [show i=l by omega];rfl
 | j+1,i,hi=>by
  obtain ⟨h1,h2⟩:=h i (by omega)
  rw [Zre,ZdC,List.length_take,Nat.min_eq_left (by omega),ZvY,ZuU _ _ _ _ (by omega),←h2]
  have e:ints (s.take (a+i))++[((s.getD (a+i) 0).toNat:Int)]=ints (s.take (a+(i+1))):=by
   rw [←Nat.add_assoc,Zjy s (a+i) 0 h1,Zl4];rfl
  rw [e]
  exact Zrd s a l k hk hka h j (i+1) (by omega)
theorem Zst {s:Str} {a c:Nat} (h:Zjq s a=.lit c):c=(s.getD a 0).toNat:=by
 unfold Zjq at h
 split at h
 ·exact (Tk.lit.inj h).symm
 ·cases h
theorem Zsu {s:Str} {a l k:Nat} (h:Zjq s a=.far l k) (ha:a≤s.length):3≤l∧l≤60∧1≤k∧k≤250∧a+l≤s.length∧Zpt (ints (s.take a)) l k=some (ints (s.take (a+l))):=by
 have hb:=Zkh s a (min 250 a)
 unfold Zjq at h
 by_cases c:(ZcH s a (min 250 a)).1<3
 ·rw [if_pos c] at h;cases h
 ·rw [if_neg c] at h
  obtain ⟨rfl,rfl⟩:=Tk.far.inj h
  obtain ⟨h1,h2,h3⟩:=hb
  obtain ⟨h4,h5⟩:=h3 (by omega)
  have hs:∀i,i<(ZcH s a (min 250 a)).1→a+i<s.length∧s.getD (a+i) 0=s.getD (a+i-(ZcH s a (min 250 a)).2) 0:=fun i hi=>
   ZtE s a (ZcH s a (min 250 a)).2 60 0 i (Nat.zero_le _) (by rw [←h5];exact hi)
  have hlast:=(hs ((ZcH s a (min 250 a)).1-1) (by omega)).1
  refine ⟨by omega,h1,h4,by omega,by omega,?_⟩
  unfold Zpt
  rw [ZdC,List.length_take,Nat.min_eq_left ha,if_pos ⟨h1,by omega,by omega⟩]
  have:=Zrd s a _ _ h4 (by omega) hs (ZcH s a (min 250 a)).1 0 (by omega)
  rw [Nat.add_zero] at this
  rw [this]
def Zcq:List Nat:=[0,0,0,0,0,0,0,0,1,1,1,1,2,2,2,2,3,3,3,3,4,4,4,4,5,5,5,5]
def ZaA:List Nat:=[3,4,5,6,7,8,9,10,11,13,15,17,19,23,27,31,35,43,51,59,67,83,99,115,131,163,195,227]
def Zc6:List Nat:=[0,0,0,0,1,1,2,2,3,3,4,4,5,5,6,6,7,7,8,8,9,9,10,10,11,11,12,12,13,13]
def ZaP:List Nat:=[1,2,3,4,5,7,9,13,17,25,33,49,65,97,129,193,257,385,513,769,1025,1537,2049,3073,4097,6145,8193,12289,16385,24577]
theorem ZjQ:ZbQ=some (zs ZaA,zs Zcq):=by kernel_rfl
theorem Zki:ZbV=some (zs ZaP,zs Zc6):=by kernel_rfl
theorem Zfh:Zbb=some (zs Zcq):=by kernel_rfl
theorem Zfi:Zbc=some (zs Zc6):=by kernel_rfl
theorem Zin:ZcK (zs Zcq) 3=some (zs ZaA):=by kernel_rfl
theorem Zio:ZcK (zs Zc6) 1=some (zs ZaP):=by kernel_rfl
def Zmi:List Nat:=List.replicate 144 8++List.replicate 112 9++List.replicate 24 7++List.replicate 8 8
def Zm3:List Nat:=List.replicate 32 5
theorem ZkG:Zbl=some (zs Zmi,zs Zm3):=by kernel_rfl
theorem ZnP:ZcQ=some (zs Zmi):=by kernel_rfl
theorem ZnQ:ZcR=some (zs Zm3):=by kernel_rfl
def ZbN (F:List Nat) (n:Nat):Nat:=(F.filter fun x=>decide (x≤n)).length-1
def chkL:Bool:=(List.range 58).all fun i=>
 (Zce (zs ZaA) (zs Zcq) ((i+3:Nat):Int)==some ((ZbN ZaA (i+3):Nat):Int))&&(ZeS (zs ZaA) ((i+3:Nat):Int)==some ((ZbN ZaA (i+3):Nat):Int))&&
 decide (ZbN ZaA (i+3)<28)&&decide (ZaA.getD (ZbN ZaA (i+3)) 0≤i+3)&&decide (i+3-ZaA.getD (ZbN ZaA (i+3)) 0<2^Zcq.getD (ZbN ZaA (i+3)) 0)
def chkD:Bool:=(List.range 250).all fun i=>
 (Zce (zs ZaP) (zs Zc6) ((i+1:Nat):Int)==some ((ZbN ZaP (i+1):Nat):Int))&&(ZeS (zs ZaP) ((i+1:Nat):Int)==some ((ZbN ZaP (i+1):Nat):Int))&&
 decide (ZbN ZaP (i+1)<30)&&decide (ZaP.getD (ZbN ZaP (i+1)) 0≤i+1)&&decide (i+1-ZaP.getD (ZbN ZaP (i+1)) 0<2^Zc6.getD (ZbN ZaP (i+1)) 0)
theorem ZyW:chkL=true:=by kernel_rfl
theorem ZyX:chkD=true:=by kernel_rfl
theorem Zfa (n:Nat) (h1:3≤n) (h2:n≤60):Zce (zs ZaA) (zs Zcq) (n:Int)=some ((ZbN ZaA n:Nat):Int)∧ZeS (zs ZaA) (n:Int)=some ((ZbN ZaA n:Nat):Int)∧
  ZbN ZaA n<28∧ZaA.getD (ZbN ZaA n) 0≤n∧n-ZaA.getD (ZbN ZaA n) 0<2^Zcq.getD (ZbN ZaA n) 0:=by
 have h:=List.all_eq_true.1 ZyW (n-3) (List.mem_range.2 (by omega))
 rw [show n-3+3=n by omega] at h
 simp only [Bool.and_eq_true,beq_iff_eq,decide_eq_true_eq] at h
 exact ⟨h.1.1.1.1,h.1.1.1.2,h.1.1.2,h.1.2,h.2⟩
theorem ZfO (n:Nat) (h1:1≤n) (h2:n≤250):Zce (zs ZaP) (zs Zc6) (n:Int)=some ((ZbN ZaP n:Nat):Int)∧ZeS (zs ZaP) (n:Int)=some ((ZbN ZaP n:Nat):Int)∧
  ZbN ZaP n<30∧ZaP.getD (ZbN ZaP n) 0≤n∧n-ZaP.getD (ZbN ZaP n) 0<2^Zc6.getD (ZbN ZaP n) 0:=by
 have h:=List.all_eq_true.1 ZyX (n-1) (List.mem_range.2 (by omega))
 rw [show n-1+1=n by omega] at h
 simp only [Bool.and_eq_true,beq_iff_eq,decide_eq_true_eq] at h
 exact ⟨h.1.1.1.1,h.1.1.1.2,h.1.1.2,h.1.2,h.2⟩
theorem ZiQ (k:Nat):Zcq.getD k 0≤5:=by
 by_cases h:k<28
 ·have:(List.range 28).all (fun k=>decide (Zcq.getD k 0≤5))=true:=by decide
  simpa using List.all_eq_true.1 this k (List.mem_range.2 h)
 ·simp [List.getD,show Zcq.length=28 from rfl,Nat.le_of_not_lt h]
theorem Zjm (k:Nat):Zc6.getD k 0≤13:=by
 by_cases h:k<30
 ·have:(List.range 30).all (fun k=>decide (Zc6.getD k 0≤13))=true:=by decide
  simpa using List.all_eq_true.1 this k (List.mem_range.2 h)
 ·simp [List.getD,show Zc6.length=30 from rfl,Nat.le_of_not_lt h]
def Tk.Ok:Tk→Prop
 | .lit c=>c<256
 | .far l k=>3≤l∧l≤60∧1≤k∧k≤250
theorem ZkU (s:Str):∀f a,a≤s.length→∀t∈ZeN s f a,t.Ok
 | 0,a,ha,t,h=>by simp [ZeN] at h
 | f+1,a,ha,t,h=>by
  rw [ZeN] at h
  by_cases hlt:a<s.length
  ·rw [if_pos hlt] at h
   cases hk:Zjq s a with
   | lit c=>
    rw [hk] at h
    rcases List.mem_cons.1 h with rfl | h
    ·rw [Zst hk];exact UInt8.toNat_lt _
    ·exact ZkU s f (a+1) (by omega) t h
   | far l k=>
    have hf:=Zsu hk ha
    rw [hk] at h
    rcases List.mem_cons.1 h with rfl | h
    ·exact ⟨hf.1,hf.2.1,hf.2.2.1,hf.2.2.2.1⟩
    ·exact ZkU s f (a+l) (by omega) t h
  ·rw [if_neg hlt] at h;simp at h
theorem Zkm (s:Str):∀f a,(ZeN s f a).length≤f
 | 0,a=>by simp [ZeN]
 | f+1,a=>by
  rw [ZeN];split
  ·have:=Zkm s f (a+(Zjq s a).long);simp;omega
  ·simp
def Zps (ls ds:List Nat):Tk→List Bool
 | .lit c=>ZiA ls c
 | .far l k=>ZiA ls (257+ZbN ZaA l)++(ZbH (l-ZaA.getD (ZbN ZaA l) 0) (Zcq.getD (ZbN ZaA l) 0)++(ZiA ds (ZbN ZaP k)++ZbH (k-ZaP.getD (ZbN ZaP k) 0) (Zc6.getD (ZbN ZaP k) 0)))
def Zfs (ls ds:List Nat):List Tk→List Bool
 | []=>ZiA ls 256
 | t::r=>Zps ls ds t++Zfs ls ds r
def Tk.In (ls ds:List Nat):Tk→Prop
 | .lit c=>c<ls.length
 | .far l k=>257+ZbN ZaA l<ls.length∧ZbN ZaP k<ds.length
theorem Zcl (ns:List Nat) (i:Nat) (hi:i<ns.length) (h15:∀n∈ns,n≤15):(ZiA ns i).length≤15:=by
 have hm:ns.getD i 0≤15:=by rw [Zal hi];exact h15 _ (List.getElem_mem hi)
 simp [ZiA,msb,Zaj];exact hm
theorem ZgJ (ls ds:List Nat) (hl:∀n∈ls,n≤15) (hd:∀n∈ds,n≤15) (t:Tk) (h:t.In ls ds):(Zps ls ds t).length≤48:=by
 cases t with
 | lit c=>have:=Zcl ls c h hl;simp only [Zps];omega
 | far l k=>
  have h1:=Zcl ls _ h.1 hl
  have h2:=Zcl ds _ h.2 hd
  have h3:=ZiQ (ZbN ZaA l)
  have h4:=Zjm (ZbN ZaP k)
  simp only [Zps,List.length_append,Zaj];omega
end Ev
end
section
namespace Ev
open Go
theorem Zaa {α β:Type} (a:α) (f:α→Option β):(some a).bind f=f a:=Eq.trans rfl rfl
def Zgg (ls ds:List Nat) (ts:List Tk):List Bool:=ts.flatMap (Zps ls ds)
theorem Zgj (ls ds:List Nat):∀ts,Zfs ls ds ts=Zgg ls ds ts++ZiA ls 256
 | []=>rfl
 | t::r=>by rw [Zfs,Zgj ls ds r];simp [Zgg]
theorem ZkQ (ts:List Tk) (i:Nat) (h:i<ts.length):(ts.map Tk.z).getD i (0,0,0)=(ts[i]).z:=by
 rw [Zal (by simpa using h)];simp
theorem Zm9 (ls ds:List Nat) (hkl:Zbs ls≤32768) (hkd:Zbs ds≤32768) (hl:∀n∈ls,n≤15) (hd:∀n∈ds,n≤15) (ts:List Tk) (hts:∀t∈ts,t.Ok∧t.In ls ds) (hn:ts.length≤1000) :
  ∀(j i:Nat) (l:List Bool),i+j=ts.length→l.length+48*j≤70000000→
  ZbF.l0 (j+1) (zs ls,zs ds,ts.map Tk.z,(ts.length:Int),(i:Int),(l.length:Int),zs (ZbW ls),zs (ZbW ds),Zfe l) =
   some (zs ls,(((l++Zgg ls ds (ts.drop i)).length:Nat):Int),zs (ZbW ls),Zfe (l++Zgg ls ds (ts.drop i)))
 | 0,i,l,hi,hb=>by
  rw [ZbF.l0.succ];simp only [ZbF.l0.step]
  rw [ZaZ (by omega),List.drop_eq_nil_of_le (by omega)];simp [Zgg]
 | j+1,i,l,hi,hb=>by
  have hlt:i<ts.length:=by omega
  obtain ⟨hok,hin⟩:=hts ts[i] (List.getElem_mem hlt)
  have hdr:ts.drop i=ts[i]::ts.drop (i+1):=List.drop_eq_getElem_cons hlt
  have htl:=ZgJ ls ds hl hd ts[i] hin
  have ih:=Zm9 ls ds hkl hkd hl hd ts hts hn j (i+1) (l++Zps ls ds ts[i]) (by omega) (by simp;omega)
  have e:Zgg ls ds (ts.drop i)=Zps ls ds ts[i]++Zgg ls ds (ts.drop (i+1)):=by rw [hdr];rfl
  rw [e,←List.append_assoc,←ih]
  rw [ZbF.l0.succ];simp only [ZbF.l0.step]
  rw [ZaY hlt,cond_true,Zab _ (by rw [List.length_map];exact Zax hlt),Int.toNat_natCast,ZkQ ts i hlt,Zaf (n:=(i:Int)+1) (by omega) (by omega),show (i:Int)+1=((i+1:Nat):Int) by omega]
  cases hk:ts[i] with
  | lit c=>
   rw [hk] at hok hin
   have hc:=ZiB ls hkl hl c hin l (by omega)
   simp only [Tk.z]
   rw [show ((0:Int)==0)=true from rfl,cond_true,hc]
   simp only [Zaa,Zps]
  | far n k=>
   rw [hk] at hok hin
   obtain ⟨o1,o2,o3,o4⟩:=hok
   obtain ⟨i1,i2⟩:=hin
   obtain ⟨a1,a2,a3,a4,a5⟩:=Zfa n o1 o2
   obtain ⟨b1,b2,b3,b4,b5⟩:=ZfO k o3 o4
   have hlb:=ZiQ (ZbN ZaA n)
   have hbb:=Zjm (ZbN ZaP k)
   have hs1:=Zcl ls (257+ZbN ZaA n) i1 hl
   have hs2:=Zcl ds (ZbN ZaP k) i2 hd
   have c1:=ZiB ls hkl hl _ i1 l (by omega)
   have c2:=Zew (n-ZaA.getD (ZbN ZaA n) 0) (Zcq.getD (ZbN ZaA n) 0) (by omega) (by omega) (l++ZiA ls (257+ZbN ZaA n)) (by simp only [List.length_append];omega)
   have c3:=ZiB ds hkd hd _ i2 ((l++ZiA ls (257+ZbN ZaA n))++ZbH (n-ZaA.getD (ZbN ZaA n) 0) (Zcq.getD (ZbN ZaA n) 0)) (by simp only [List.length_append,Zaj];omega)
   have c4:=Zew (k-ZaP.getD (ZbN ZaP k) 0) (Zc6.getD (ZbN ZaP k) 0) (by omega) (by omega) (((l++ZiA ls (257+ZbN ZaA n))++ZbH (n-ZaA.getD (ZbN ZaA n) 0) (Zcq.getD (ZbN ZaA n) 0))++ZiA ds (ZbN ZaP k)) (by simp only [List.length_append,Zaj];omega)
   have eL:=ZjQ
   have eB:=Zki
   have gL:=fun i:Nat=>ZaE ZaA i
   have gM:=fun i:Nat=>ZaE Zcq i
   have gB:=fun i:Nat=>ZaE ZaP i
   have gC:=fun i:Nat=>ZaE Zc6 i
   have nL:(zs ZaA).length=28:=Zag ZaA
   have nM:(zs Zcq).length=28:=Zag Zcq
   have nB:(zs ZaP).length=30:=Zag ZaP
   have nC:(zs Zc6).length=30:=Zag Zc6
   generalize zs ZaA=A at eL a1 a2 gL nL
   generalize zs Zcq=A' at eL a1 gM nM
   generalize zs ZaP=B at eB b1 b2 gB nB
   generalize zs Zc6=B' at eB b1 gC nC
   simp only [Tk.z]
   rw [show ((n:Int)==0)=false by simp;omega,cond_false,eL,eB]
   simp only [Zaa]
   rw [a1]
   simp only [Zaa]
   rw [Zaf (n:=257+((ZbN ZaA n:Nat):Int)) (by omega) (by omega),show (257:Int)+((ZbN ZaA n:Nat):Int)=((257+ZbN ZaA n:Nat):Int) by omega,c1]
   simp only [Zaa]
   rw [Zab _ (Zax (by rw [nL];exact a3)),Zab _ (Zax (by rw [nM];exact a3)),Int.toNat_natCast,gL,gM,
    Zaf (n:=(n:Int)-((ZaA.getD (ZbN ZaA n) 0:Nat):Int)) (by omega) (by omega),show (n:Int)-((ZaA.getD (ZbN ZaA n) 0:Nat):Int)=((n-ZaA.getD (ZbN ZaA n) 0:Nat):Int) by omega,c2]
   simp only [Zaa]
   rw [b1]
   simp only [Zaa]
   rw [c3]
   simp only [Zaa]
   rw [Zab _ (Zax (by rw [nB];exact b3)),Zab _ (Zax (by rw [nC];exact b3)),Int.toNat_natCast,gB,gC,
    Zaf (n:=(k:Int)-((ZaP.getD (ZbN ZaP k) 0:Nat):Int)) (by omega) (by omega),show (k:Int)-((ZaP.getD (ZbN ZaP k) 0:Nat):Int)=((k-ZaP.getD (ZbN ZaP k) 0:Nat):Int) by omega,c4]
   simp only [Zaa,Zps,List.append_assoc]
theorem Zna (ls ds:List Nat) (hkl:Zbs ls≤32768) (hkd:Zbs ds≤32768) (hl:∀n∈ls,n≤15) (hd:∀n∈ds,n≤15) (h1:ls.length≤300) (h2:ds.length≤300) (h256:256<ls.length) (ts:List Tk) (hts:∀t∈ts,t.Ok∧t.In ls ds) (hn:ts.length≤1000)
  (l:List Bool) (hb:l.length≤60000000):ZbF (ts.map Tk.z) (zs ls) (zs ds) (l.length:Int) (Zfe l)=some ((((l++Zfs ls ds ts).length:Nat):Int),Zfe (l++Zfs ls ds ts)):=by
 unfold ZbF
 rw [Zk8 ls (by omega),Zk8 ds (by omega)]
 simp only [Zae,List.length_map]
 rw [ZaJ]
 have h:=Zm9 ls ds hkl hkd hl hd ts hts hn ts.length 0 l (by omega) (by omega)
 rw [show ((0:Nat):Int)=0 from rfl] at h
 rw [h,List.drop_zero]
 simp only [Zae]
 have hbl:(Zgg ls ds ts).length≤48*ts.length:=by
  clear h hn hb
  induction ts with
  | nil=>simp [Zgg]
  | cons t r ih=>
   have:=ih (fun t h=>hts t (List.mem_cons_of_mem _ h))
   have ht:=ZgJ ls ds hl hd t (hts t (List.mem_cons_self ..)).2
   simp only [Zgg,List.flatMap_cons,List.length_append,List.length_cons] at this ⊢;omega
 have hc:=ZiB ls hkl hl 256 h256 (l++Zgg ls ds ts) (by simp;omega)
 rw [show ((256:Nat):Int)=256 from rfl] at hc
 rw [hc,Zgj]
 simp only [Zae,List.append_assoc]
theorem Zny (ls ds:List Nat) (hkl:Zbs ls≤32768) (hkd:Zbs ds≤32768) (hl:∀n∈ls,n≤15) (hd:∀n∈ds,n≤15) (ts:List Tk) (hts:∀t∈ts,t.Ok∧t.In ls ds) (hn:ts.length≤1000) :
  ∀(j i:Nat) (l:List Bool),i+j=ts.length→l.length+48*j≤70000000→
  ZbG.l0 (j+1) (ts.map Tk.z,zs ls,zs ds,(i:Int),(oL l:Int),((l.length%8:Nat):Int),zs (ZbW ls),zs (ZbW ds),zs ZaA,zs ZaP,oT l) =
   some (zs ls,(oL (l++Zgg ls ds (ts.drop i)):Int),(((l++Zgg ls ds (ts.drop i)).length%8:Nat):Int),zs (ZbW ls),oT (l++Zgg ls ds (ts.drop i)))
 | 0,i,l,hi,hb=>by
  rw [ZbG.l0.succ];simp only [ZbG.l0.step,List.length_map]
  rw [ZaZ (by omega),List.drop_eq_nil_of_le (by omega)];simp [Zgg]
 | j+1,i,l,hi,hb=>by
  have hlt:i<ts.length:=by omega
  obtain ⟨hok,hin⟩:=hts ts[i] (List.getElem_mem hlt)
  have hdr:ts.drop i=ts[i]::ts.drop (i+1):=List.drop_eq_getElem_cons hlt
  have htl:=ZgJ ls ds hl hd ts[i] hin
  have ih:=Zny ls ds hkl hkd hl hd ts hts hn j (i+1) (l++Zps ls ds ts[i]) (by omega) (by simp;omega)
  have e:Zgg ls ds (ts.drop i)=Zps ls ds ts[i]++Zgg ls ds (ts.drop (i+1)):=by rw [hdr];rfl
  rw [e,←List.append_assoc,←ih]
  rw [ZbG.l0.succ];simp only [ZbG.l0.step,List.length_map]
  rw [ZaY hlt,cond_true,Zab _ ZaB,Int.toNat_natCast,ZkQ ts i hlt,Zaf (n:=(i:Int)+1) (by omega) (by omega),show (i:Int)+1=((i+1:Nat):Int) by omega]
  cases hk:ts[i] with
  | lit c=>
   rw [hk] at hok hin
   have hc:=ZlH ls hkl hl c hin l (by omega)
   simp only [Tk.z]
   rw [show ((0:Int)==0)=true from rfl,cond_true,hc]
   simp only [Zae,Zps]
  | far n k=>
   rw [hk] at hok hin
   obtain ⟨o1,o2,o3,o4⟩:=hok
   obtain ⟨i1,i2⟩:=hin
   obtain ⟨a1,a2,a3,a4,a5⟩:=Zfa n o1 o2
   obtain ⟨b1,b2,b3,b4,b5⟩:=ZfO k o3 o4
   have hlb:=ZiQ (ZbN ZaA n)
   have hbb:=Zjm (ZbN ZaP k)
   have hs1:=Zcl ls (257+ZbN ZaA n) i1 hl
   have hs2:=Zcl ds (ZbN ZaP k) i2 hd
   have c1:=ZlH ls hkl hl _ i1 l (by omega)
   have c2:=Zed (n-ZaA.getD (ZbN ZaA n) 0) (Zcq.getD (ZbN ZaA n) 0) (by omega) (by omega) (l++ZiA ls (257+ZbN ZaA n)) (by simp only [List.length_append];omega)
   have c3:=ZlH ds hkd hd _ i2 ((l++ZiA ls (257+ZbN ZaA n))++ZbH (n-ZaA.getD (ZbN ZaA n) 0) (Zcq.getD (ZbN ZaA n) 0)) (by simp only [List.length_append,Zaj];omega)
   have c4:=Zed (k-ZaP.getD (ZbN ZaP k) 0) (Zc6.getD (ZbN ZaP k) 0) (by omega) (by omega) (((l++ZiA ls (257+ZbN ZaA n))++ZbH (n-ZaA.getD (ZbN ZaA n) 0) (Zcq.getD (ZbN ZaA n) 0))++ZiA ds (ZbN ZaP k)) (by simp only [List.length_append,Zaj];omega)
   simp only [Tk.z]
   rw [show ((n:Int)==0)=false by simp;omega,cond_false,Zfh,Zfi]
   simp only [Zae,a2,b2]
   rw [Zaf (n:=257+((ZbN ZaA n:Nat):Int)) (by omega) (by omega),show (257:Int)+((ZbN ZaA n:Nat):Int)=((257+ZbN ZaA n:Nat):Int) by omega,c1]
   simp only [Zae]
   rw [Zab _ (Zax (by rw [Zag];exact a3)),Zab _ (Zax (by rw [Zag];exact a3)),Int.toNat_natCast,ZaE,ZaE,
    Zaf (n:=(n:Int)-((ZaA.getD (ZbN ZaA n) 0:Nat):Int)) (by omega) (by omega),show (n:Int)-((ZaA.getD (ZbN ZaA n) 0:Nat):Int)=((n-ZaA.getD (ZbN ZaA n) 0:Nat):Int) by omega,c2]
   simp only [Zae]
   rw [c3]
   simp only [Zae]
   rw [Zab _ (Zax (by rw [Zag];exact b3)),Zab _ (Zax (by rw [Zag];exact b3)),Int.toNat_natCast,ZaE,ZaE,
    Zaf (n:=(k:Int)-((ZaP.getD (ZbN ZaP k) 0:Nat):Int)) (by omega) (by omega),show (k:Int)-((ZaP.getD (ZbN ZaP k) 0:Nat):Int)=((k-ZaP.getD (ZbN ZaP k) 0:Nat):Int) by omega,c4]
   simp only [Zae,Zps,List.append_assoc]
theorem Zf3 (ls ds:List Nat) (hl:∀n∈ls,n≤15) (hd:∀n∈ds,n≤15):∀ts:List Tk,(∀t∈ts,t.Ok∧t.In ls ds)→(Zgg ls ds ts).length≤48*ts.length
 | [],_=>by simp [Zgg]
 | t::r,h=>by
  have:=Zf3 ls ds hl hd r (fun t ht=>h t (List.mem_cons_of_mem _ ht))
  have ht:=ZgJ ls ds hl hd t (h t (List.mem_cons_self ..)).2
  simp only [Zgg,List.flatMap_cons,List.length_append,List.length_cons] at this ⊢;omega
theorem Znz (ls ds:List Nat) (hkl:Zbs ls≤32768) (hkd:Zbs ds≤32768) (hl:∀n∈ls,n≤15) (hd:∀n∈ds,n≤15) (h1:ls.length≤300) (h2:ds.length≤300) (h256:256<ls.length) (ts:List Tk) (hts:∀t∈ts,t.Ok∧t.In ls ds) (hn:ts.length≤1000)
  (l:List Bool) (hb:l.length≤60000000):ZbG (ts.map Tk.z) (zs ls) (zs ds) (oL l:Int) ((l.length%8:Nat):Int) (oT l) =
   some ((oL (l++Zfs ls ds ts):Int),(((l++Zfs ls ds ts).length%8:Nat):Int),oT (l++Zfs ls ds ts)):=by
 unfold ZbG
 rw [ZeE ls (by omega),ZeE ds (by omega),Zfh,Zfi]
 simp only [Zae,List.length_map,Zin,Zio]
 rw [ZaJ]
 have h:=Zny ls ds hkl hkd hl hd ts hts hn ts.length 0 l (by omega) (by omega)
 rw [show ((0:Nat):Int)=0 from rfl] at h
 rw [h,List.drop_zero]
 simp only [Zae]
 have hbl:=Zf3 ls ds hl hd ts hts
 have hc:=ZlH ls hkl hl 256 h256 (l++Zgg ls ds ts) (by simp;omega)
 rw [show ((256:Nat):Int)=256 from rfl] at hc
 rw [hc,Zgj]
 simp only [Zae,List.append_assoc]
end Ev
end
section
namespace Ev
open Go
def Zhg (l:List Bool):Str:=Zbv (Zfe l)
theorem Zhf (l:List Bool):(Zhg l).length=(l.length+7)/8:=by simp [Zhg,Zbv,Zde]
theorem ZtS (l:List Bool) (h:8≤l.length):Zfe l=((Zcn (l.take 8):Nat):Int)::Zfe (l.drop 8):=by
 unfold Zfe
 rw [show (l.length+7)/8=((l.drop 8).length+7)/8+1 by rw [List.length_drop];omega,List.range_succ_eq_map,List.map_cons,List.map_map]
 congr 1
 apply List.map_congr_left
 intro i _
 simp only [Function.comp,List.drop_drop]
 rw [show 8*(i+1)=8+8*i by omega]
theorem Zwv (l:List Bool) (h:l.length=8):ZbH (UInt8.ofNat ((Zcn l:Nat):Int).toNat).toNat 8=l:=by
 have hv:=Zle l
 rw [h] at hv
 rw [Int.toNat_natCast,UInt8.toNat_ofNat_of_lt' (by omega)]
 have:=Zqc l
 rwa [h] at this
theorem ZgZ:∀(k:Nat) (l:List Bool),l.length=8*k→Zdc (Zhg l)=l
 | 0,l,h=>by
  have:l=[]:=List.length_eq_zero_iff.1 (by omega)
  subst this;rfl
 | k+1,l,h=>by
  have e:Zhg l=UInt8.ofNat ((Zcn (l.take 8):Nat):Int).toNat::Zhg (l.drop 8):=by unfold Zhg;rw [ZtS l (by omega)];rfl
  rw [e,Zdc,Zwv _ (by rw [List.length_take];omega),ZgZ k _ (by rw [List.length_drop];omega),List.take_append_drop]
theorem Zrn (l:List Bool):Zdc (Zhg l)=ZhV l:=by
 have:Zhg l=Zhg (ZhV l):=by unfold Zhg;rw [(ZiJ l).2]
 rw [this]
 exact ZgZ _ _ (ZfY l)
def Zn2:List Bool:=[true,false,false,false,false,false,false,false]
def Zfu (n:Nat):List Bool:=Zn2++ZbH n 16++ZbH (65535-n) 16
def Zg3 (s:Str):Str:=Zhg (Zfu s.length)++s
theorem ZrE (s:Str) (hs:s.length≤300):Zdq s=some (Zg3 s):=by
 have e1:ZeL 1 3 0 []=some (3,[1]):=by kernel_rfl
 have e2:Zju 3 [1]=some (8,Zfe Zn2):=by kernel_rfl
 have e3:=Zew s.length 16 (by omega) (by omega) Zn2 (by simp [Zn2])
 have e4:=Zew (65535-s.length) 16 (by omega) (by omega) (Zn2++ZbH s.length 16) (by simp [Zn2,Zaj])
 rw [show (Zn2.length:Int)=8 from rfl,show ((16:Nat):Int)=16 from rfl] at e3
 rw [show ((16:Nat):Int)=16 from rfl] at e4
 unfold Zdq
 rw [decide_eq_false (by omega),cond_false,e1]
 simp only [Zaa]
 rw [e2]
 simp only [Zaa]
 rw [e3]
 simp only [Zaa]
 rw [Zaf (by omega) (by omega),show (65535:Int)-(s.length:Int)=((65535-s.length:Nat):Int) by omega,e4]
 simp only [Zaa]
 rw [Zad]
 ·rfl
 ·have:=Zhf (Zfu s.length)
  unfold Zhg Zfu at this
  rw [this];simp [Zn2,Zaj];omega
theorem Zud (s:Str) (hs:s.length≤300):Zeg s=some (Zg3 s):=by
 have e1:Zd3 1 1 0 0 []=some (1,1,[]):=by kernel_rfl
 have e2:Zd3 0 2 1 1 []=some (1,3,[]):=by kernel_rfl
 have e3:ZdA 1 3 []=some (0,0,oT Zn2):=by kernel_rfl
 have e4:=Zed s.length 16 (by omega) (by omega) Zn2 (by simp [Zn2])
 have e5:=Zed (65535-s.length) 16 (by omega) (by omega) (Zn2++ZbH s.length 16) (by simp [Zn2,Zaj])
 rw [show (oL Zn2:Int)=0 by kernel_rfl,show ((Zn2.length%8:Nat):Int)=0 from rfl,show ((16:Nat):Int)=16 from rfl] at e4
 rw [show ((16:Nat):Int)=16 from rfl] at e5
 unfold Zeg
 rw [e1]
 simp only [Zaa]
 rw [e2]
 simp only [Zaa]
 rw [e3]
 simp only [Zaa]
 rw [e4]
 simp only [Zaa]
 rw [Zaf (by omega) (by omega),show (65535:Int)-(s.length:Int)=((65535-s.length:Nat):Int) by omega,e5]
 simp only [Zaa]
 have hl:(Zfu s.length).length=40:=by simp [Zfu,Zn2,Zaj]
 have hq:=Zhf (Zfu s.length)
 unfold Zhg at hq
 have hp:oT (Zfu s.length)=Zfe (Zfu s.length):=by
  have hf:ZhV (Zfu s.length)=Zfu s.length:=by unfold ZhV;rw [hl,show (8-40%8)%8=0 from rfl,List.replicate_zero,List.append_nil]
  rw [(ZiJ _).1,hf]
 rw [show oT (Zn2++ZbH s.length 16++ZbH (65535-s.length) 16)=Zfe (Zfu s.length) from hp,Zad (by rw [hq,hl];omega)]
 rfl
theorem Zoz (s:Str):(Zg3 s).length=5+s.length:=by
 simp only [Zg3,List.length_append,Zhf]
 simp [Zfu,Zn2,Zaj]
theorem Zoa:Zbs Zmi=32768:=by kernel_rfl
theorem Zob:Zbs Zm3=32768:=by kernel_rfl
theorem Zpa:∀n∈Zmi,n≤15:=by
 intro n hn
 simp only [Zmi,List.mem_append,List.mem_replicate] at hn
 omega
theorem Zse:∀n∈Zm3,n≤15:=by
 intro n hn
 simp only [Zm3,List.mem_replicate] at hn
 omega
theorem ZcT:Zmi.length=288:=by kernel_rfl
theorem ZgV:Zm3.length=32:=by kernel_rfl
theorem Zwd (t:Tk) (h:t.Ok):t.In Zmi Zm3:=by
 cases t with
 | lit c=>show c<Zmi.length;rw [ZcT];have:c<256:=h;omega
 | far l k=>
  obtain ⟨h1,h2,h3,h4⟩:=h
  have a:=(Zfa l h1 h2).2.2.1
  have b:=(ZfO k h3 h4).2.2.1
  show 257+ZbN ZaA l<Zmi.length∧ZbN ZaP k<Zm3.length
  rw [ZcT,ZgV];omega
theorem Zf7 (s:Str):∀t∈ZhY s,t.Ok:=ZkU s _ 0 (Nat.zero_le _)
theorem Zfr (s:Str):(ZhY s).length≤s.length:=Zkm s _ 0
def Zwc (s:Str):List Bool:=ZbH 1 1++ZbH 1 2++Zfs Zmi Zm3 (ZhY s)
def Zg7 (s:Str):Str:=Zhg (Zwc s)
theorem Zsd (s:Str) (hs:s.length≤300):Zdy s=some (Zg7 s):=by
 have hl:=Zfr s
 have e1:=Zew 1 1 (by omega) (by omega) [] (by simp)
 have e2:=Zew 1 2 (by omega) (by omega) ([]++ZbH 1 1) (by simp [Zaj])
 have e3:=Zna Zmi Zm3 (by rw [Zoa];omega) (by rw [Zob];omega) Zpa Zse (by rw [ZcT];omega) (by rw [ZgV];omega) (by rw [ZcT];omega) (ZhY s) (fun t h=>⟨Zf7 s t h,Zwd t (Zf7 s t h)⟩) (by omega) ([]++ZbH 1 1++ZbH 1 2) (by simp [Zaj])
 rw [show ((1:Nat):Int)=1 from rfl,show (([]:List Bool).length:Int)=0 from rfl,show Zfe []=[] by kernel_rfl] at e1
 rw [show ((1:Nat):Int)=1 from rfl,show ((2:Nat):Int)=2 from rfl] at e2
 unfold Zdy
 rw [decide_eq_false (by omega),cond_false,e1]
 simp only [Zaa]
 rw [e2]
 simp only [Zaa]
 rw [ZkG,Zli s hs]
 simp only [Zaa]
 rw [e3]
 rfl
theorem Zuf (s:Str) (hs:s.length≤300):Zeh s=some (Zg7 s):=by
 have hl:=Zfr s
 have e1:=Zed 1 1 (by omega) (by omega) [] (by simp)
 have e2:=Zed 1 2 (by omega) (by omega) ([]++ZbH 1 1) (by simp [Zaj])
 have e3:=Znz Zmi Zm3 (by rw [Zoa];omega) (by rw [Zob];omega) Zpa Zse (by rw [ZcT];omega) (by rw [ZgV];omega) (by rw [ZcT];omega) (ZhY s) (fun t h=>⟨Zf7 s t h,Zwd t (Zf7 s t h)⟩) (by omega) ([]++ZbH 1 1++ZbH 1 2) (by simp [Zaj])
 have hb:=Zf3 Zmi Zm3 Zpa Zse (ZhY s) (fun t h=>⟨Zf7 s t h,Zwd t (Zf7 s t h)⟩)
 have h2:=Zcl Zmi 256 (by rw [ZcT];omega) Zpa
 have e4:=Zp9 ([]++ZbH 1 1++ZbH 1 2++Zfs Zmi Zm3 (ZhY s)) (by simp only [Zgj,List.length_append,Zaj,List.length_nil];omega)
 rw [show ((1:Nat):Int)=1 from rfl,show (oL []:Int)=0 by kernel_rfl,show ((([]:List Bool).length%8:Nat):Int)=0 from rfl,show oT []=[] by kernel_rfl] at e1
 rw [show ((1:Nat):Int)=1 from rfl,show ((2:Nat):Int)=2 from rfl] at e2
 unfold Zeh
 rw [e1]
 simp only [Zaa]
 rw [e2]
 simp only [Zaa]
 rw [ZnP,ZnQ,ZlV s hs]
 simp only [Zaa]
 rw [e3]
 simp only [Zaa]
 rw [e4]
 rfl
end Ev
end
section
namespace Ev
open Go
abbrev HT:=Nat×Nat×List Nat
def Ze8 (out:List Nat) (S:List Nat):List Nat:=(List.range out.length).map fun i=>out.getD i 0+S.count i
theorem Zay (out S:List Nat):(Ze8 out S).length=out.length:=by simp [Ze8]
theorem ZcD (out S:List Nat) (i:Nat) (h:i<out.length):(Ze8 out S).getD i 0=out.getD i 0+S.count i:=by
 rw [Zal (by rw [Zay];exact h)]
 simp [Ze8]
theorem Zwx (out:List Nat) {S S':List Nat} (h:S.Perm S'):Ze8 out S=Ze8 out S':=by
 unfold Ze8
 exact List.map_congr_left fun i _=>by rw [h.count_eq]
theorem Zen (out:List Nat):Ze8 out []=out:=by
 apply List.ext_getElem
 ·exact Zay _ _
 ·intro i h1 h2
  have:=ZcD out [] i h2
  rw [Zal h1,Zal h2] at this
  simpa using this
theorem Zjk (out S:List Nat) (s:Nat) (h:s<out.length):Ze8 out (S++[s])=(Ze8 out S).set s ((Ze8 out S).getD s 0+1):=by
 apply List.ext_getElem
 ·simp [Zay]
 ·intro i h1 h2
  rw [Zay] at h1
  have e1:=ZcD out (S++[s]) i h1
  have e2:=ZcD out S i h1
  rw [Zal (by rw [Zay];exact h1)] at e1 e2
  have e3:=ZcD out S s h
  rw [e1,List.getElem_set,e2,List.count_append]
  by_cases c:s=i
  ·subst c;rw [if_pos rfl,e3];simp;omega
  ·rw [if_neg c];simp [List.count_cons,c]
def Zjz (out:List Nat) (S:List Nat):Nat:=(S.map fun s=>2^(15-out.getD s 0)).sum
def Zjb:Nat→Nat
 | 0=>0
 | 1=>1
 | n+2=>Zjb n+Zjb (n+1)
theorem ZyR (n:Nat):Zjb n≤Zjb (n+1):=by
 cases n with
 | zero=>decide
 | succ n=>show Zjb (n+1)≤Zjb n+Zjb (n+1);omega
theorem Zmj {a b:Nat} (h:a≤b):Zjb a≤Zjb b:=by
 induction h with
 | refl=>exact Nat.le_refl _
 | step _ ih=>exact Nat.le_trans ih (ZyR _)
theorem Zpe (n:Nat):1≤Zjb (n+1):=Zmj (a:=1) (by omega)
theorem Zja {d c:Nat} (h:Zjb (d+2)≤c) (hc:c≤400):d≤12:=by
 rcases Nat.lt_or_ge 12 d with h13 | h13
 ·have:Zjb 15≤Zjb (d+2):=Zmj (by omega)
  have:Zjb 15=610:=by decide
  omega
 ·exact h13
structure TOk (out:List Nat) (T:Nat) (e:HT):Prop where
 fin:e.2.1∈e.2.2
 fle:∀s∈e.2.2,e.2.1≤s
 lt:∀s∈e.2.2,s<out.length
 kr:Zjz out e.2.2=32768
 dep:∃d,(∀s∈e.2.2,out.getD s 0≤d)∧Zjb (d+2)≤e.1∧(1≤d→Zjb (d+1)≤T)
 top:T≤e.1
structure Zrx (out:List Nat) (l:List HT) (T:Nat) (U:List Nat) (tot:Nat):Prop where
 all:∀e∈l,TOk out T e
 perm:(l.flatMap fun e=>e.2.2).Perm U
 sum:(l.map fun e=>e.1).sum=tot
theorem Zsw {α:Type} {l l':List α} (f:α→Nat) (h:l.Perm l'):(l.map f).sum=(l'.map f).sum:=by
 induction h with
 | nil=>rfl
 | cons x _ ih=>simp [ih]
 | swap x y l=>simp only [List.map_cons,List.sum_cons];omega
 | trans _ _ a b=>exact a.trans b
theorem Zwb {α β:Type} {l l':List α} (f:α→List β) (h:l.Perm l'):(l.flatMap f).Perm (l'.flatMap f):=by
 induction h with
 | nil=>exact .refl _
 | cons x _ ih=>simpa using List.Perm.append_left _ ih
 | swap x y l=>
  simp only [List.flatMap_cons,←List.append_assoc]
  exact List.Perm.append_right _ List.perm_append_comm
 | trans _ _ a b=>exact a.trans b
theorem Zrx.of_perm {out:List Nat} {l l':List HT} {T:Nat} {U:List Nat} {tot:Nat} (h:Zrx out l T U tot) (p:l.Perm l'):Zrx out l' T U tot:=
 ⟨fun e he=>h.all e (p.mem_iff.2 he),(Zwb _ p).symm.trans h.perm,(Zsw _ p).symm.trans h.sum⟩
theorem ZuX (out S:List Nat) (h:∀s∈S,s<out.length∧out.getD s 0≤14) (out':List Nat) (h':∀s∈S,out'.getD s 0=out.getD s 0+1):2*Zjz out' S=Zjz out S:=by
 induction S with
 | nil=>rfl
 | cons s S ih=>
  have:=ih (fun x hx=>h x (List.mem_cons_of_mem _ hx)) (fun x hx=>h' x (List.mem_cons_of_mem _ hx))
  have h1:=h s (List.mem_cons_self ..)
  have h2:=h' s (List.mem_cons_self ..)
  simp only [Zjz,List.map_cons,List.sum_cons] at this ⊢
  rw [h2,Nat.mul_add,this]
  congr 1
  rw [show 15-out.getD s 0=(15-(out.getD s 0+1))+1 by omega,Nat.pow_succ,Nat.mul_comm]
theorem ZuW (out out' S:List Nat) (h':∀s∈S,out'.getD s 0=out.getD s 0):Zjz out' S=Zjz out S:=by
 unfold Zjz
 congr 1
 exact List.map_congr_left fun s hs=>by rw [h' s hs]
theorem Zii (out a b:List Nat):Zjz out (a++b)=Zjz out a+Zjz out b:=by simp [Zjz]
def Zi1 (a b:HT):HT:=(a.1+b.1,(if b.2.1<a.2.1 then b.2.1 else a.2.1),a.2.2++b.2.2)
theorem Zrx.step {out:List Nat} {a b:HT} {r:List HT} {T:Nat} {U:List Nat} {tot:Nat} (h:Zrx out (a::b::r) T U tot) (hU:U.Nodup) (htot:tot≤400) (hab:a.1≤b.1) (hr:∀e∈r,b.1≤e.1) :
  Zrx (Ze8 out (a.2.2++b.2.2)) (Zi1 a b::r) b.1 U tot:=by
 have ha:=h.all a (by simp)
 have hb:=h.all b (by simp)
 have hsum:=h.sum
 simp only [List.map_cons,List.sum_cons] at hsum
 have hp:=h.perm
 simp only [List.flatMap_cons] at hp
 have hnd:=(hp.nodup_iff).2 hU
 rw [←List.append_assoc] at hnd
 obtain ⟨da,a1,a2,a3⟩:=ha.dep
 obtain ⟨db,b1,b2,b3⟩:=hb.dep
 have hda:=Zja a2 (by omega)
 have hdb:=Zja b2 (by omega)
 have hlt:∀s∈a.2.2++b.2.2,s<out.length:=fun s hs=>(List.mem_append.1 hs).elim (ha.lt s) (hb.lt s)
 have hone:∀s∈a.2.2++b.2.2,(Ze8 out (a.2.2++b.2.2)).getD s 0=out.getD s 0+1:=fun s hs=>by
  rw [ZcD out _ s (hlt s hs)]
  have:=(List.nodup_append.1 hnd).1
  rw [this.count,if_pos hs]
 have hother:∀e∈r,∀s∈e.2.2,(Ze8 out (a.2.2++b.2.2)).getD s 0=out.getD s 0:=fun e he s hs=>by
  rw [ZcD out _ s ((h.all e (by simp [he])).lt s hs),List.count_eq_zero.2 (fun hm=>(List.nodup_append.1 hnd).2.2 s hm s (List.mem_flatMap.2 ⟨e,he,hs⟩) rfl)];rfl
 refine ⟨fun e he=>?_,?_,?_⟩
 ·rcases List.mem_cons.1 he with rfl | he
  ·have pa:=Zpe (da+1)
   have pb:=Zpe (db+1)
   refine ⟨?_,fun s hs=>?_,fun s hs=>by rw [Zay];exact hlt s hs,?_,⟨max da db+1,fun s hs=>?_,?_,fun _=>?_⟩,Nat.le_add_left _ _⟩
   ·show (if b.2.1<a.2.1 then b.2.1 else a.2.1)∈a.2.2++b.2.2
    split
    ·exact List.mem_append_right _ hb.fin
    ·exact List.mem_append_left _ ha.fin
   ·show (if b.2.1<a.2.1 then b.2.1 else a.2.1)≤s
    rcases List.mem_append.1 hs with hs | hs
    ·have:=ha.fle s hs;split<;>omega
    ·have:=hb.fle s hs;split<;>omega
   ·have h2:=ZuX out (a.2.2++b.2.2) (fun s hs=>⟨hlt s hs,by
     rcases List.mem_append.1 hs with hs | hs
     ·have:=a1 s hs;omega
     ·have:=b1 s hs;omega⟩) _ hone
    rw [Zii out,ha.kr,hb.kr] at h2
    show Zjz _ (a.2.2++b.2.2)=32768
    omega
   ·rw [hone s hs]
    rcases List.mem_append.1 hs with hs | hs
    ·have:=a1 s hs;omega
    ·have:=b1 s hs;omega
   ·show Zjb (max da db+1+2)≤a.1+b.1
    have e:Zjb (max da db+1+2)=Zjb (max da db+1)+Zjb (max da db+2):=rfl
    rw [e]
    rcases Nat.le_total db da with hd | hd
    ·rw [Nat.max_eq_left hd]
     have:Zjb (da+1)≤b.1:=by
      rcases Nat.eq_zero_or_pos da with h0 | h0
      ·subst h0;exact Nat.le_trans (Zpe 0 |> fun _=>(by simpa [Zjb] using pb)) b2
      ·exact Nat.le_trans (a3 h0) hb.top
     omega
    ·rw [Nat.max_eq_right hd]
     have:Zjb (db+1)≤a.1:=by
      rcases Nat.eq_zero_or_pos db with h0 | h0
      ·subst h0;exact Nat.le_trans (by simpa [Zjb] using pa) a2
      ·exact Nat.le_trans (b3 h0) ha.top
     omega
   ·show Zjb (max da db+1+1)≤b.1
    rcases Nat.le_total db da with hd | hd
    ·rw [Nat.max_eq_left hd];exact Nat.le_trans a2 hab
    ·rw [Nat.max_eq_right hd];exact b2
  ·have he':=h.all e (by simp [he])
   obtain ⟨d,d1,d2,d3⟩:=he'.dep
   exact ⟨he'.fin,he'.fle,fun s hs=>by rw [Zay];exact he'.lt s hs,(ZuW _ _ _ (hother e he)).trans he'.kr,
    ⟨d,fun s hs=>by rw [hother e he s hs];exact d1 s hs,d2,fun h1=>Nat.le_trans (d3 h1) hb.top⟩,hr e he⟩
 ·simp only [List.flatMap_cons,Zi1,List.append_assoc];exact hp
 ·simp only [List.map_cons,List.sum_cons,Zi1];omega
end Ev
end
section
namespace Ev
open Go
def ltH (x y:HT):Bool:=decide (x.1<y.1)||(decide (x.1=y.1)&&decide (x.2.1<y.2.1))
def HT.d:HT:=(0,0,[])
def Zhr (l:List HT):Nat→Nat→Nat→Nat
 | 0,a,_=>a
 | f+1,a,i=>Zhr l f (if ltH (l.getD i HT.d) (l.getD a HT.d) then i else a) (i+1)
def lst (l:List HT):Nat:=Zhr l (l.length-1) 0 1
def less (l:List HT) (k:Nat):List HT:=l.take k++l.drop (k+1)
theorem Zim (l:List HT):∀(f a i:Nat),i+f=l.length→a<l.length→(∀j,j<i→(l.getD a HT.d).1≤(l.getD j HT.d).1)→
  Zhr l f a i<l.length∧∀j,j<l.length→(l.getD (Zhr l f a i) HT.d).1≤(l.getD j HT.d).1
 | 0,a,i,h,ha,hj=>⟨ha,fun j hl=>hj j (by omega)⟩
 | f+1,a,i,h,ha,hj=>by
  rw [Zhr]
  by_cases c:ltH (l.getD i HT.d) (l.getD a HT.d)=true
  ·rw [if_pos c]
   refine Zim l f i (i+1) (by omega) (by omega) fun j hl=>?_
   have:(l.getD i HT.d).1≤(l.getD a HT.d).1:=by
    simp only [ltH,Bool.or_eq_true,Bool.and_eq_true,decide_eq_true_eq] at c;omega
   by_cases e:j=i
   ·subst e;exact Nat.le_refl _
   ·have:=hj j (by omega);omega
  ·rw [if_neg c]
   refine Zim l f a (i+1) (by omega) ha fun j hl=>?_
   by_cases e:j=i
   ·subst e
    simp only [ltH,Bool.or_eq_true,Bool.and_eq_true,decide_eq_true_eq] at c;omega
   ·exact hj j (by omega)
theorem ZgR (l:List HT) (h:0<l.length):lst l<l.length∧∀e∈l,(l.getD (lst l) HT.d).1≤e.1:=by
 have:=Zim l (l.length-1) 0 1 (by omega) h (fun j hj=>by rw [show j=0 by omega];exact Nat.le_refl _)
 refine ⟨this.1,fun e he=>?_⟩
 obtain ⟨j,hj,rfl⟩:=List.getElem_of_mem he
 have h2:=this.2 j hj
 rw [Zal hj] at h2
 exact h2
theorem ZlN (l:List HT) (k:Nat) (h:k<l.length):l.Perm (l.getD k HT.d::less l k):=by
 have e:l=l.take k++(l.getD k HT.d::l.drop (k+1)):=by
  rw [Zal h,←List.drop_eq_getElem_cons h,List.take_append_drop]
 have p:=List.perm_middle (a:=l.getD k HT.d) (l₁:=l.take k) (l₂:=l.drop (k+1))
 have:l.Perm (l.take k++(l.getD k HT.d::l.drop (k+1))):=by rw [←e]
 exact this.trans p
theorem ZgT (l:List HT) (k:Nat) (h:k<l.length):(less l k).length+1=l.length:=by
 have:=(ZlN l k h).length_eq
 simpa using this.symm
def Zg6 (l:List HT):HT:=l.getD (lst l) HT.d
def ZgM (l:List HT):HT:=Zg6 (less l (lst l))
def ZiG (l:List HT):List HT:=less (less l (lst l)) (lst (less l (lst l)))
def Zgz:Nat→List Nat→List HT→List Nat
 | 0,out,_=>out
 | n+1,out,l=>if 1<l.length then Zgz n (Ze8 out ((Zg6 l).2.2++(ZgM l).2.2)) (ZiG l++[Zi1 (Zg6 l) (ZgM l)]) else out
theorem Zw6 (l:List HT) (h:1<l.length):l.Perm (Zg6 l::ZgM l::ZiG l)∧(Zg6 l).1≤(ZgM l).1∧(∀e∈ZiG l,(ZgM l).1≤e.1)∧(ZiG l).length+2=l.length:=by
 obtain ⟨h1,h2⟩:=ZgR l (by omega)
 have p1:=ZlN l (lst l) h1
 have n1:=ZgT l (lst l) h1
 obtain ⟨h3,h4⟩:=ZgR (less l (lst l)) (by omega)
 have p2:=ZlN (less l (lst l)) _ h3
 have n2:=ZgT (less l (lst l)) _ h3
 have pp:l.Perm (Zg6 l::ZgM l::ZiG l):=p1.trans (p2.cons _)
 refine ⟨pp,h2 _ (pp.mem_iff.2 (by simp)),fun e he=>h4 e (p2.mem_iff.2 (List.mem_cons_of_mem _ he)),?_⟩
 unfold ZiG;omega
theorem Zrx.next {out:List Nat} {l:List HT} {T:Nat} {U:List Nat} {tot:Nat} (h:Zrx out l T U tot) (hU:U.Nodup) (htot:tot≤400) (hl:1<l.length) :
  Zrx (Ze8 out ((Zg6 l).2.2++(ZgM l).2.2)) (ZiG l++[Zi1 (Zg6 l) (ZgM l)]) (ZgM l).1 U tot∧(ZiG l++[Zi1 (Zg6 l) (ZgM l)]).length+1=l.length:=by
 obtain ⟨p,h1,h2,h3⟩:=Zw6 l hl
 refine ⟨((h.of_perm p).step hU htot h1 h2).of_perm ?_,by simp;omega⟩
 exact (List.perm_append_comm (l₁:=[Zi1 (Zg6 l) (ZgM l)]) (l₂:=ZiG l))
theorem Zl6 {U:List Nat} {tot:Nat} (hU:U.Nodup) (htot:tot≤400):∀(n:Nat) (out:List Nat) (l:List HT) (T:Nat),l.length=n+1→Zrx out l T U tot→
  (Zgz n out l).length=out.length∧(∀i,i<out.length→i∉U→(Zgz n out l).getD i 0=out.getD i 0)∧∃e T',Zrx (Zgz n out l) [e] T' U tot
 | 0,out,l,T,hl,h=>by
  obtain ⟨e,rfl⟩:=List.length_eq_one_iff.1 hl
  exact ⟨rfl,fun _ _ _=>rfl,e,T,h⟩
 | n+1,out,l,T,hl,h=>by
  obtain ⟨h1,h2⟩:=h.next hU htot (by omega)
  have ih:=Zl6 hU htot n _ _ _ (by omega) h1
  rw [Zgz,if_pos (by omega)]
  refine ⟨ih.1.trans (Zay _ _),fun i hi hn=>?_,ih.2.2⟩
  rw [ih.2.1 i (by rw [Zay];exact hi) hn,ZcD _ _ _ hi,List.count_eq_zero.2,Nat.add_zero]
  intro hm
  apply hn
  obtain ⟨p,_⟩:=Zw6 l (by omega)
  refine h.perm.mem_iff.1 (List.mem_flatMap.2 ?_)
  rcases List.mem_append.1 hm with hm | hm
  ·exact ⟨_,p.mem_iff.2 (by simp),hm⟩
  ·exact ⟨_,p.mem_iff.2 (by simp),hm⟩
def Zb0 (ns:List Nat):List Nat:=(List.range ns.length).filter fun i=>decide (0<ns.getD i 0)
theorem Zjv (n:Nat) (r:List Nat):Zb0 (n::r)=(if 0<n then [0] else [])++(Zb0 r).map (· + 1):=by
 unfold Zb0
 rw [List.length_cons,List.range_succ_eq_map,List.filter_cons,List.filter_map]
 by_cases h:0<n
 ·rw [if_pos (by simpa using h),if_pos h];rfl
 ·rw [if_neg (by simpa using h),if_neg h];rfl
theorem Zgi:∀ns,ZeM ns=(Zb0 ns).length
 | []=>rfl
 | n::r=>by
  rw [Zjv,ZeM,Zgi r]
  by_cases h:0<n
  ·rw [if_pos h,if_pos h];simp;omega
  ·rw [if_neg h,if_neg h];simp
theorem Zir:∀ns,Zbs ns=Zjz ns (Zb0 ns)
 | []=>rfl
 | n::r=>by
  have e:Zjz (n::r) ((Zb0 r).map (· + 1))=Zjz r (Zb0 r):=by
   unfold Zjz;rw [List.map_map];rfl
  rw [Zjv,Zbs,Zir r,Zii,e]
  by_cases h:0<n
  ·rw [if_pos h,if_pos h];simp [Zjz]
  ·rw [if_neg h,if_neg h];simp [Zjz]
theorem Zlk:∀ns:List Nat,((Zb0 ns).map fun i=>ns.getD i 0).sum=ns.sum
 | []=>rfl
 | n::r=>by
  have e:(((Zb0 r).map (· + 1)).map fun i=>(n::r).getD i 0)=(Zb0 r).map fun i=>r.getD i 0:=by rw [List.map_map];rfl
  rw [Zjv,List.map_append,e,List.sum_append,Zlk r,List.sum_cons]
  by_cases h:0<n
  ·rw [if_pos h];simp
  ·rw [if_neg h];simp;omega
theorem Zcz (ns:List Nat) (i:Nat):i∈Zb0 ns↔i<ns.length∧0<ns.getD i 0:=by
 simp [Zb0]
theorem Zig (ns:List Nat):(Zb0 ns).Nodup:=List.Pairwise.filter _ List.nodup_range
def ZfU (cs:List Nat):List HT:=(Zb0 cs).map fun i=>(cs.getD i 0,i,[i])
def ZdE (cs:List Nat):List Nat:=
 if (Zb0 cs).length=1 then (List.replicate cs.length 0).set ((Zb0 cs).getD 0 0) 1 else Zgz ((Zb0 cs).length-1) (List.replicate cs.length 0) (ZfU cs)
theorem Zdm (n i:Nat):(List.replicate n 0).getD i 0=0:=by
 by_cases h:i<n
 ·rw [Zal (by simpa using h)];simp
 ·simp [List.getD,Nat.le_of_not_lt h]
theorem ZjS (cs:List Nat):Zrx (List.replicate cs.length 0) (ZfU cs) 0 (Zb0 cs) cs.sum:=by
 refine ⟨fun e he=>?_,?_,?_⟩
 ·obtain ⟨i,hi,rfl⟩:=List.mem_map.1 he
  obtain ⟨h1,h2⟩:=(Zcz cs i).1 hi
  refine ⟨by simp,fun s hs=>?_,fun s hs=>?_,?_,⟨0,fun s hs=>?_,?_,fun h=>?_⟩,Nat.zero_le _⟩
  ·have:s=i:=by simpa using hs
   subst this;exact Nat.le_refl _
  ·have:s=i:=by simpa using hs
   subst this;simpa using h1
  ·simp only [Zjz,List.map_cons,List.map_nil,List.sum_cons,List.sum_nil,Zdm];rfl
  ·rw [Zdm];exact Nat.le_refl _
  ·show 1≤cs.getD i 0;omega
  ·omega
 ·unfold ZfU
  rw [List.flatMap_map]
  have:∀l:List Nat,(l.flatMap fun i=>[i])=l:=fun l=>by induction l<;>simp_all
  rw [this]
 ·unfold ZfU
  rw [List.map_map]
  exact Zlk cs
structure LOk (cs out:List Nat) (d:Nat):Prop where
 len:out.length=cs.length
 pos:∀i,0<cs.getD i 0↔0<out.getD i 0
 le:∀n∈out,n≤d
 ok:Zbs out=32768∨ZeM out=1∧Zbs out=16384
theorem Zih (cs out:List Nat) (h:out.length=cs.length) (hp:∀i,0<cs.getD i 0↔0<out.getD i 0):Zb0 out=Zb0 cs:=by
 unfold Zb0
 rw [h]
 exact List.filter_congr fun i _=>by simp only [decide_eq_decide];exact (hp i).symm
theorem Zsy (out:List Nat):∀S:List Nat,S≠[]→0<Zjz out S
 | [],h=>absurd rfl h
 | s::S,_=>by
  have:=Nat.two_pow_pos (15-out.getD s 0)
  simp only [Zjz,List.map_cons,List.sum_cons];omega
theorem Zk3 (cs:List Nat) (h0:Zb0 cs≠[]) (ht:cs.sum≤400):∃d,d≤12∧LOk cs (ZdE cs) d∧(d≤1∨Zjb (d+2)≤cs.sum):=by
 have hU:=Zig cs
 by_cases h1:(Zb0 cs).length=1
 ·obtain ⟨k,hk⟩:=List.length_eq_one_iff.1 h1
  have hm:k<cs.length∧0<cs.getD k 0:=(Zcz cs k).1 (by rw [hk];simp)
  have e:ZdE cs=(List.replicate cs.length 0).set k 1:=by unfold ZdE;rw [if_pos h1,hk];rfl
  have hlen:(ZdE cs).length=cs.length:=by rw [e];simp
  have hget:∀i,(ZdE cs).getD i 0=if i=k then 1 else 0:=fun i=>by
   rw [e]
   by_cases hi:i<cs.length
   ·rw [Zal (by simpa using hi),List.getElem_set]
    by_cases c:k=i
    ·rw [if_pos c,if_pos c.symm]
    ·rw [if_neg c,if_neg (fun x=>c x.symm)];simp
   ·rw [if_neg (by omega)]
    simp [List.getD,Nat.le_of_not_lt hi]
  have hpos:∀i,0<cs.getD i 0↔0<(ZdE cs).getD i 0:=fun i=>by
   rw [hget i]
   constructor
   ·intro h
    have hi:i<cs.length:=by
     rcases Nat.lt_or_ge i cs.length with h' | h'
     ·exact h'
     ·rw [show cs.getD i 0=0 by simp [List.getD,h']] at h;omega
    have:i∈Zb0 cs:=(Zcz cs i).2 ⟨hi,h⟩
    rw [hk] at this
    rw [if_pos (by simpa using this)];omega
   ·intro h
    by_cases c:i=k
    ·rw [c];exact hm.2
    ·rw [if_neg c] at h;omega
  have hc:=Zih cs (ZdE cs) hlen hpos
  refine ⟨1,by omega,⟨hlen,hpos,fun n hn=>?_,.inr ⟨by rw [Zgi,hc];exact h1,?_⟩⟩,.inl (Nat.le_refl _)⟩
  ·obtain ⟨j,hj,rfl⟩:=List.getElem_of_mem hn
   have:=hget j
   rw [Zal hj] at this
   rw [this];split<;>omega
  ·rw [Zir,hc,hk]
   simp only [Zjz,List.map_cons,List.map_nil,List.sum_cons,List.sum_nil,hget,if_true];rfl
 ·have hn:0<(Zb0 cs).length:=List.length_pos_iff.2 h0
  have e:ZdE cs=Zgz ((Zb0 cs).length-1) (List.replicate cs.length 0) (ZfU cs):=by unfold ZdE;rw [if_neg h1]
  obtain ⟨l1,l2,t,T',hI⟩:=Zl6 hU ht ((Zb0 cs).length-1) (List.replicate cs.length 0) (ZfU cs) 0 (by simp [ZfU];omega) (ZjS cs)
  rw [←e] at l1 l2 hI
  rw [List.length_replicate] at l1 l2
  have tok:=hI.all t (by simp)
  obtain ⟨d,d1,d2,d3⟩:=tok.dep
  have hts:t.1=cs.sum:=by simpa using hI.sum
  have hpp:t.2.2.Perm (Zb0 cs):=by simpa using hI.perm
  have hkr:Zjz (ZdE cs) (Zb0 cs)=32768:=by
   have:=Zsw (fun s=>2^(15-(ZdE cs).getD s 0)) hpp
   unfold Zjz;rw [←this];exact tok.kr
  have hd:d≤12:=Zja d2 (by omega)
  have hpos:∀i,0<cs.getD i 0↔0<(ZdE cs).getD i 0:=fun i=>by
   constructor
   ·intro h
    have hi:i<cs.length:=by
     rcases Nat.lt_or_ge i cs.length with h' | h'
     ·exact h'
     ·rw [show cs.getD i 0=0 by simp [List.getD,h']] at h;omega
    have hmem:i∈Zb0 cs:=(Zcz cs i).2 ⟨hi,h⟩
    rcases Nat.eq_zero_or_pos ((ZdE cs).getD i 0) with hz | hz
    ·obtain ⟨a,b,hab⟩:=List.append_of_mem hmem
     rw [hab,Zii] at hkr
     have ec:Zjz (ZdE cs) (i::b)=32768+Zjz (ZdE cs) b:=by simp only [Zjz,List.map_cons,List.sum_cons,hz]
     have ha:a=[]:=by
      rcases Classical.em (a=[]) with h' | h'
      ·exact h'
      ·have:=Zsy (ZdE cs) a h';omega
     have hb:b=[]:=by
      rcases Classical.em (b=[]) with h' | h'
      ·exact h'
      ·have:=Zsy (ZdE cs) b h';omega
     rw [hab,ha,hb] at h1
     exact absurd rfl h1
    ·exact hz
   ·intro h
    rcases Nat.lt_or_ge i cs.length with hi | hi
    ·rcases Classical.em (i∈Zb0 cs) with hm | hm
     ·exact ((Zcz cs i).1 hm).2
     ·rw [l2 i hi hm,Zdm] at h;omega
    ·rw [show (ZdE cs).getD i 0=0 by simp [List.getD,l1,hi]] at h;omega
  have hc:=Zih cs (ZdE cs) l1 hpos
  refine ⟨d,hd,⟨l1,hpos,fun n hn=>?_,.inl (by rw [Zir,hc];exact hkr)⟩,.inr (by rw [←hts];exact d2)⟩
  obtain ⟨j,hj,rfl⟩:=List.getElem_of_mem hn
  rcases Classical.em (j∈Zb0 cs) with hm | hm
  ·have:=d1 j (hpp.mem_iff.2 hm)
   rwa [Zal hj] at this
  ·have:=l2 j (by omega) hm
   rw [Zal hj,Zdm] at this
   omega
end Ev
end
