/- Plain laws about what the functions compute. Conditions: as stated. -/
import Derived.KernelRfl
import Derived.Test.YtiphcamiidggcaaGreatDoorBGP0
set_option linter.unusedVariables false
set_option linter.unusedSimpArgs false
section
namespace Ev
open Go
def Ret {α:Type} (x:Option α) (Q:α→Prop):Prop:=∃a,x=some a∧Q a
theorem Ret.pure {α:Type} {a:α} {Q:α→Prop} (h:Q a):Ret (some a) Q:=⟨a,rfl,h⟩
theorem Ret.of {α:Type} {x:Option α} {a:α} {Q:α→Prop} (e:x=some a) (h:Q a):Ret x Q:=⟨a,e,h⟩
theorem Ret.mono {α:Type} {x:Option α} {P Q:α→Prop} (h:Ret x P) (k:∀a,P a→Q a):Ret x Q:=by
 obtain ⟨a,e,q⟩:=h;exact ⟨a,e,k a q⟩
theorem Ret.bind {α β:Type} {x:Option α} {f:α→Option β} {P:α→Prop} {Q:β→Prop} (h:Ret x P) (k:∀a,P a→Ret (f a) Q):Ret (x.bind f) Q:=by
 obtain ⟨a,rfl,q⟩:=h;exact k a q
theorem Ret.need {α:Type} {b:Bool} {x:Option α} {Q:α→Prop} (h:b=true) (k:Ret x Q):Ret (Ev.need b x) Q:=by subst h;exact k
theorem Ret.cond {α:Type} {b:Bool} {x y:Option α} {Q:α→Prop} (h1:b=true→Ret x Q) (h0:b=false→Ret y Q):Ret (bif b then x else y) Q:=by
 cases b
 ·exact h0 rfl
 ·exact h1 rfl
theorem Ret.ite {α:Type} {p:Prop} [Decidable p] {x y:Option α} {Q:α→Prop} (h1:p→Ret x Q) (h0:¬p→Ret y Q):Ret (if p then x else y) Q:=by
 by_cases h:p
 ·rw [if_pos h];exact h1 h
 ·rw [if_neg h];exact h0 h
theorem Ret.map {α β:Type} {x:Option α} {f:α→β} {Q:β→Prop} (h:Ret x (fun a=>Q (f a))):Ret (x.map f) Q:=by
 obtain ⟨a,rfl,q⟩:=h;exact ⟨f a,rfl,q⟩
theorem Ret.loop {T σ:Type} {step:(T→Option σ)→T→Option σ} (Inv:T→Prop) (μ:T→Nat) (Q:T→σ→Prop)
  (h:∀again t,Inv t→(∀t',Inv t'→μ t'<μ t→Ret (again t') (Q t'))→Ret (step again t) (Q t)):∀n t,Inv t→μ t<n→Ret (ZaB step n t) (Q t)
 | 0,_,_,hn=>absurd hn (Nat.not_lt_zero _)
 | n+1,t,hi,hn=>h _ t hi fun t' hi' hm=>Ret.loop Inv μ Q h n t' hi' (by omega)
theorem Zan {α:Type} {p q:Prop} [Decidable p] [Decidable q] {x:Option α} (hp:p) (hq:q):need (decide p&&decide q) x=x:=Zab _ (by simp [hp,hq])
theorem Zal {α:Type} {p:Prop} [Decidable p] {x:Option α} (hp:p):need (decide p) x=x:=Zab _ (by simp [hp])
theorem Zak {α:Type} {p:Prop} [Decidable p] {x:Option α} {n:Nat} (hp:p) (hn:n≤1099511627776):need (decide p&&fits n) x=x:=Zab _ (by simp [hp,Zfa hn])
theorem Zad {α:Type} {n:Nat} {x:Option α} (h:n≤1099511627776):need (fits n) x=x:=Zab _ (Zfa h)
theorem Zas {α:Type} {a b:Int} {x:Option α} (h:a≠b):need (a != b) x=x:=Zab _ (by simp [h])
theorem ZaN {α:Type} {x:Option α}:need true x=x:=rfl
theorem Zbj {α:Type} (p:Prop) [Decidable p] (x y:α):(bif decide p then x else y)=if p then x else y:=by
 by_cases h:p<;>simp [h]
theorem Zdo {α β:Type} [BEq β] [LawfulBEq β] [DecidableEq β] (a b:β) (x y:α):(bif a==b then x else y)=if a=b then x else y:=by
 by_cases h:a=b
 ·simp [h]
 ·rw [if_neg h,beq_false_of_ne h];rfl
theorem Zdp {α β:Type} [BEq β] [LawfulBEq β] [DecidableEq β] (a b:β) (x y:α):(bif a != b then x else y)=if a=b then y else x:=by
 by_cases h:a=b
 ·simp [h]
 ·rw [if_neg h,bne,beq_false_of_ne h];rfl
theorem Zbs {α:Type} (b:Bool) (x y:α):(bif !b then x else y)=bif b then y else x:=by cases b<;>rfl
theorem Zat {α:Type} (p:Prop) [Decidable p] (x y:α):(bif !decide p then x else y)=if p then y else x:=by
 by_cases h:p<;>simp [h]
theorem Zaz {a b:Int} (h:0≤a):a.tmod b=a%b:=Int.tmod_eq_emod_of_nonneg h
theorem Zaw {a b:Int} (h:0≤a):a.tdiv b=a/b:=Int.tdiv_eq_ediv_of_nonneg h
theorem Zae {α β:Type} (a:α) (f:α→Option β):(some a).bind f=f a:=rfl
theorem Zam {α:Type} {l:List α} {i:Nat} {d:α} (h:i<l.length):l.getD i d=l[i]:=by simp [List.getD,h]
end Ev
end
section
namespace Ev
open Go
theorem Zf3 {n:Int} (h1:-9223372036854775808≤n) (h2:n≤9223372036854775807):IntKind.i64.wrap n=n:=Zaf h1 h2
theorem Zwg (x y:Nat) (hx:x<4611686018427387904) (hy:y<4611686018427387904):Zj7 .i64 (x:Int) (y:Int)=((x^^^y:Nat):Int):=by
 have hz:x^^^y<2^62:=Nat.xor_lt_two_pow (by omega) (by omega)
 unfold Zj7
 have e:(BitVec.ofInt IntKind.i64.bits (x:Int)^^^BitVec.ofInt IntKind.i64.bits (y:Int)).toNat=x^^^y:=by
  simp only [BitVec.ofInt_natCast,BitVec.toNat_xor,BitVec.toNat_ofNat,show IntKind.i64.bits=64 from rfl]
  rw [Nat.mod_eq_of_lt (by omega),Nat.mod_eq_of_lt (by omega)]
 rw [e,Zf3 (by omega) (by omega)]
theorem Zwf {x y:Int} (hx:0≤x) (hx2:x<4611686018427387904) (hy:0≤y) (hy2:y<4611686018427387904):0≤Zj7 .i64 x y:=by
 obtain ⟨a,rfl⟩:=Int.eq_ofNat_of_zero_le hx
 obtain ⟨b,rfl⟩:=Int.eq_ofNat_of_zero_le hy
 rw [Zwg a b (by omega) (by omega)];omega
def Zqe (b:List Int) (p:Int):Prop:=b.length≤2000∧(∀x,x∈b→0≤x∧x≤255)∧0≤p
theorem Zqe.up {b:List Int} {p q:Int} (h:Zqe b p) (hq:p≤q):Zqe b q:=⟨h.1,h.2.1,by have:=h.2.2;omega⟩
theorem Zlg {b:List Int} (h:∀x,x∈b→0≤x∧x≤255) (i:Nat):0≤b.getD i 0∧b.getD i 0≤255:=by
 by_cases hi:i<b.length
 ·rw [Zam hi];exact h _ (List.getElem_mem hi)
 ·have:b.getD i 0=0:=by simp [List.getD,List.getElem?_eq_none (by omega:b.length≤i)]
  rw [this];omega
theorem ZnH (n:Int) {b:List Int} {p:Int} (h:Zqe b p) (hp:p≤1000000000) (hn:n≤1000000000) :
  Ret (pick n b p) fun r=>r.2.1=b∧r.2.2=p+1∧0≤r.1∧(r.1<n∨(r.1=0∧(n<1∨b=[]))):=by
 obtain ⟨h1,h2,h3⟩:=h
 unfold pick
 ((try simp (disch:=omega) only [Zan,Zal,Zak,Zad,Zas,ZaN,Zaf,Zaz,Zaw,Zae,Option.map_some,cond_true,cond_false,Int.sub_zero,Int.toNat_natCast]);(try simp only [Zbj,Zdo,Zdp,Zat,Zbs,if_true,if_false]))
 by_cases hn1:n<1
 ·simp only [if_pos hn1,Zae,cond_true]
  exact .pure ⟨rfl,rfl,by omega,.inr ⟨rfl,.inl hn1⟩⟩
 ·by_cases hb:b=[]
  ·subst hb
   simp only [if_neg hn1,Zae,List.length_nil,show (((0:Nat):Int)==0)=true from rfl,cond_true]
   exact .pure ⟨rfl,rfl,by omega,.inr ⟨rfl,.inr trivial⟩⟩
  ·have hl:0<b.length:=List.length_pos_iff.2 hb
   have e:((b.length:Int)==0)=false:=by simp;omega
   have hpp:p+1-1=p:=by omega
   simp only [if_neg hn1,Zae,e,cond_false,hpp]
   have hbl:(b.length:Int)≠0:=by omega
   have m1:0≤p%(b.length:Int):=Int.emod_nonneg _ hbl
   have m2:p%(b.length:Int)<b.length:=Int.emod_lt_of_pos _ (by omega)
   have m3:0≤(p*7+3)%(b.length:Int):=Int.emod_nonneg _ hbl
   have m4:(p*7+3)%(b.length:Int)<b.length:=Int.emod_lt_of_pos _ (by omega)
   have m5:0≤p/(b.length:Int):=Int.ediv_nonneg h3 (by omega)
   have m6:p/(b.length:Int)≤p:=Int.ediv_le_self _ h3
   refine .ite (fun hlt=>?_) fun hlt=>?_
   ·have g:=Zlg h2 p.toNat
    ((try simp (disch:=omega) only [Zan,Zal,Zak,Zad,Zas,ZaN,Zaf,Zaz,Zaw,Zae,Option.map_some,cond_true,cond_false,Int.sub_zero,Int.toNat_natCast]);(try simp only [Zbj,Zdo,Zdp,Zat,Zbs,if_true,if_false]))
    refine .pure ⟨rfl,rfl,Int.emod_nonneg _ (by omega),.inl (Int.emod_lt_of_pos _ (by omega))⟩
   ·((try simp (disch:=omega) only [Zan,Zal,Zak,Zad,Zas,ZaN,Zaf,Zaz,Zaw,Zae,Option.map_some,cond_true,cond_false,Int.sub_zero,Int.toNat_natCast]);(try simp only [Zbj,Zdo,Zdp,Zat,Zbs,if_true,if_false]))
    have g1:=Zlg h2 (p%(b.length:Int)).toNat
    have g2:=Zlg h2 ((p*7+3)%(b.length:Int)).toNat
    generalize b.getD (p%(b.length:Int)).toNat 0=x at *
    generalize b.getD ((p*7+3)%(b.length:Int)).toNat 0=y at *
    generalize p/(b.length:Int)=z at *
    ((try simp (disch:=omega) only [Zan,Zal,Zak,Zad,Zas,ZaN,Zaf,Zaz,Zaw,Zae,Option.map_some,cond_true,cond_false,Int.sub_zero,Int.toNat_natCast]);(try simp only [Zbj,Zdo,Zdp,Zat,Zbs,if_true,if_false]))
    have hx:=Zwf (x:=x*131+y*1117+p*29+z*53) (y:=(x*131+y*1117+p*29+z*53)/64) (by omega) (by omega) (by omega) (by omega)
    ((try simp (disch:=omega) only [Zan,Zal,Zak,Zad,Zas,ZaN,Zaf,Zaz,Zaw,Zae,Option.map_some,cond_true,cond_false,Int.sub_zero,Int.toNat_natCast]);(try simp only [Zbj,Zdo,Zdp,Zat,Zbs,if_true,if_false]))
    refine .pure ⟨rfl,rfl,Int.emod_nonneg _ (by omega),.inl (Int.emod_lt_of_pos _ (by omega))⟩
theorem ZvG (xs:List Str) {b:List Int} {p:Int} (h:Zqe b p) (hp:p≤1000000000) (hx:0<xs.length) (hx2:xs.length≤1000000000) :
  Ret (Zmm xs b p) fun r=>r.2.1=b∧r.2.2=p+1∧r.1∈xs:=by
 unfold Zmm
 refine .bind (ZnH _ h hp (by omega)) ?_
 rintro ⟨r,b',p'⟩ ⟨rfl,rfl,h0,h1⟩
 dsimp only at h0 h1 ⊢
 have hlt:r<xs.length:=by omega
 ((try simp (disch:=omega) only [Zan,Zal,Zak,Zad,Zas,ZaN,Zaf,Zaz,Zaw,Zae,Option.map_some,cond_true,cond_false,Int.sub_zero,Int.toNat_natCast]);(try simp only [Zbj,Zdo,Zdp,Zat,Zbs,if_true,if_false]))
 refine .pure ⟨rfl,rfl,?_⟩
 rw [Zam (by omega)]
 exact List.getElem_mem _
end Ev
end
section
namespace Ev
open Go
theorem ZmQ (s:Str) (n:Int) (M:Nat) (h0:0≤n) (hM:n.toNat*s.length≤M) (hs:s.length≤M) (hM2:M≤1000000) (hn:n≤1000000000):Ret (Zdx s n) fun r=>r.length≤M:=by
 unfold Zdx Zdx.l0
 refine .bind (P:=fun (o:Str)=>o.length≤M) ?_ ?_
 ·refine Ret.loop (fun (t:Str×Int×Str)=>0≤t.2.1∧t.2.1≤1000000000∧t.2.2.length+t.2.1.toNat*t.1.length≤M∧(0<t.2.1→t.1.length≤M)) (fun t=>t.2.1.toNat) (fun _ (r:Str)=>r.length≤M) ?_ _ _ ?_ ?_
  ·rintro again ⟨s,n,out⟩ ⟨h1,h1',h2,h3⟩ ih
   dsimp only at h1 h1' h2 h3
   simp only [Zdx.l0.step]
   obtain ⟨k,rfl⟩:=Int.eq_ofNat_of_zero_le h1
   rw [Int.toNat_natCast] at h2
   by_cases hk:k=0
   ·subst hk
    ((try simp (disch:=omega) only [Zan,Zal,Zak,Zad,Zas,ZaN,Zaf,Zaz,Zaw,Zae,Option.map_some,cond_true,cond_false,Int.sub_zero,Int.toNat_natCast]);(try simp only [Zbj,Zdo,Zdp,Zat,Zbs,if_true,if_false]))
    rw [if_neg (by omega)]
    exact .pure (by omega)
   ·have hs:=h3 (by omega)
    have hd:k*s.length=(k%2)*s.length+2*((k/2)*s.length):=by
     conv=>lhs;rw [←Nat.mod_add_div k 2]
     rw [Nat.add_mul,Nat.mul_assoc]
    have hL:s.length≤k*s.length:=by
     calc s.length=1*s.length:=by omega
      _≤k*s.length:=Nat.mul_le_mul_right _ (by omega)
    have key:∀o:Str,o.length≤out.length+(k%2)*s.length→Ret (again (s++s,(k:Int)/2,o)) fun r=>r.length≤M:=fun o ho=>by
     have e:((k:Int)/2)=((k/2:Nat):Int):=by omega
     refine ih _ ⟨by dsimp only;omega,by dsimp only;omega,?_,?_⟩ ?_
     ·dsimp only
      rw [e,Int.toNat_natCast,List.length_append,Nat.mul_add]
      omega
     ·dsimp only
      intro hp
      rw [List.length_append]
      have:1≤k/2:=by omega
      have:s.length≤(k/2)*s.length:=by
       calc s.length=1*s.length:=by omega
        _≤(k/2)*s.length:=Nat.mul_le_mul_right _ (by omega)
      omega
     ·dsimp only;omega
    have m1:(k:Int).tmod 2=((k%2:Nat):Int):=by rw [Zaz (by omega)];omega
    rw [m1]
    ((try simp (disch:=omega) only [Zan,Zal,Zak,Zad,Zas,ZaN,Zaf,Zaz,Zaw,Zae,Option.map_some,cond_true,cond_false,Int.sub_zero,Int.toNat_natCast]);(try simp only [Zbj,Zdo,Zdp,Zat,Zbs,if_true,if_false]))
    rw [if_pos (by omega)]
    refine .ite (fun h=>?_) fun h=>?_
    ·have e1:k%2=1:=by omega
     rw [e1,Nat.one_mul] at hd
     ((try simp (disch:=omega) only [Zan,Zal,Zak,Zad,Zas,ZaN,Zaf,Zaz,Zaw,Zae,Option.map_some,cond_true,cond_false,Int.sub_zero,Int.toNat_natCast]);(try simp only [Zbj,Zdo,Zdp,Zat,Zbs,if_true,if_false]))
     exact key (out++s) (by rw [List.length_append,e1];omega)
    ·((try simp (disch:=omega) only [Zan,Zal,Zak,Zad,Zas,ZaN,Zaf,Zaz,Zaw,Zae,Option.map_some,cond_true,cond_false,Int.sub_zero,Int.toNat_natCast]);(try simp only [Zbj,Zdo,Zdp,Zat,Zbs,if_true,if_false]))
     exact key out (by omega)
  ·exact ⟨h0,hn,by dsimp only [List.length_nil];omega,fun _=>hs⟩
  ·dsimp only;omega
 ·intro a h;exact .pure h
def Zqg {α:Type} (b:List Int) (p c:Int) (Q:α→Prop) (r:α×List Int×Int):Prop:=r.2.1=b∧p≤r.2.2∧r.2.2≤p+c∧Q r.1
theorem ZfL (n:Int) {b:List Int} {p:Int} (h:Zqe b p) (hp:p≤1000000000) (hn0:1≤n) (hn:n≤1000000000):Ret (pick n b p) (Zqg b p 1 fun x=>0≤x∧x<n):=
 (ZnH n h hp hn).mono fun r ⟨h1,h2,h3,h4⟩=>⟨h1,by omega,by omega,h3,by omega⟩
theorem ZtO (xs:List Str) {b:List Int} {p:Int} (h:Zqe b p) (hp:p≤1000000000) (hx:0<xs.length) (hx2:xs.length≤1000000000):Ret (Zmm xs b p) (Zqg b p 1 fun x=>x∈xs):=
 (ZvG xs h hp hx hx2).mono fun r ⟨h1,h2,h3⟩=>⟨h1,by omega,by omega,h3⟩
theorem Zux {b:List Int} {p:Int} (h:Zqe b p) (hp:p≤900000000):Ret (ZbZ b p) (Zqg b p 50 fun s=>s.length≤300):=by
 unfold ZbZ
 refine .bind (ZfL 8 h (by omega) (by omega) (by omega)) ?_
 rintro ⟨r,b1,p1⟩ ⟨rfl,g1,g2,g3⟩
 dsimp only at g1 g2 g3 ⊢
 have h1:=h.up g1
 ((try simp (disch:=omega) only [Zan,Zal,Zak,Zad,Zas,ZaN,Zaf,Zaz,Zaw,Zae,Option.map_some,cond_true,cond_false,Int.sub_zero,Int.toNat_natCast]);(try simp only [Zbj,Zdo,Zdp,Zat,Zbs,if_true,if_false]))
 refine .ite (fun _=>.pure ⟨rfl,by dsimp only;omega,by dsimp only;omega,by simp⟩) fun _=>.ite (fun _=>?_) fun _=>.ite (fun _=>?_) fun _=>.ite (fun _=>?_) fun _=>?_
 ·refine .bind (ZtO _ h1 (by omega) (by decide) (by decide)) ?_
  rintro ⟨x,b2,p2⟩ ⟨rfl,k1,k2,k3⟩
  dsimp only at k1 k2 k3 ⊢
  refine .bind (ZfL 40 (h1.up k1) (by omega) (by omega) (by omega)) ?_
  rintro ⟨y,b3,p3⟩ ⟨rfl,l1,l2,l3⟩
  dsimp only at l1 l2 l3 ⊢
  have hx:x.length≤6:=by
   simp only [List.mem_cons,List.not_mem_nil,or_false] at k3
   rcases k3 with rfl | rfl | rfl | rfl<;>decide
  rw [Zaf (by omega) (by omega)]
  refine .bind (ZmQ x (1+y) 300 (by omega) ?_ (by omega) (by omega) (by omega)) ?_
  ·calc (1+y).toNat*x.length≤40*6:=Nat.mul_le_mul (by omega) hx
    _≤300:=by decide
  ·intro a ha;exact .pure ⟨rfl,by dsimp only;omega,by dsimp only;omega,ha⟩
 ·refine .bind (ZfL 40 h1 (by omega) (by omega) (by omega)) ?_
  rintro ⟨x,b2,p2⟩ ⟨rfl,k1,k2,k3⟩
  dsimp only at k1 k2 k3 ⊢
  refine .bind (P:=fun (o:List Int×Int×List Int)=>o.1=b2∧p2≤o.2.1∧o.2.1≤p2+40∧o.2.2.length≤300) ?_ ?_
  ·unfold ZbZ.l0
   refine Ret.loop (fun (t:Int×List Int×Int×List Int)=>t.2.1=b2∧0≤t.1∧t.1≤40∧p2≤t.2.2.1∧t.2.2.1+t.1≤p2+40∧t.2.2.2.length+t.1≤40) (fun t=>t.1.toNat) (fun _ (o:List Int×Int×List Int)=>o.1=b2∧p2≤o.2.1∧o.2.1≤p2+40∧o.2.2.length≤300) ?_ _ _ ?_ ?_
   ·rintro again ⟨n,b3,p3,out⟩ ⟨rfl,q1,q2,q3,q4,q5⟩ ih
    dsimp only at q1 q2 q3 q4 q5
    simp only [ZbZ.l0.step]
    ((try simp (disch:=omega) only [Zan,Zal,Zak,Zad,Zas,ZaN,Zaf,Zaz,Zaw,Zae,Option.map_some,cond_true,cond_false,Int.sub_zero,Int.toNat_natCast]);(try simp only [Zbj,Zdo,Zdp,Zat,Zbs,if_true,if_false]))
    refine .ite (fun hn=>?_) fun hn=>.pure ⟨rfl,by dsimp only;omega,by dsimp only;omega,by dsimp only;omega⟩
    refine .bind (ZfL 256 ((h1.up k1).up q3) (by omega) (by omega) (by omega)) ?_
    rintro ⟨y,b4,p4⟩ ⟨rfl,l1,l2,l3⟩
    dsimp only at l1 l2 l3 ⊢
    ((try simp (disch:=omega) only [Zan,Zal,Zak,Zad,Zas,ZaN,Zaf,Zaz,Zaw,Zae,Option.map_some,cond_true,cond_false,Int.sub_zero,Int.toNat_natCast,List.length_cons,List.length_nil]);(try simp only [Zbj,Zdo,Zdp,Zat,Zbs,if_true,if_false,List.length_cons,List.length_nil]))
    refine ih _ ⟨rfl,by dsimp only;omega,by dsimp only;omega,by dsimp only;omega,by dsimp only;omega,by simp only [List.length_append,List.length_cons,List.length_nil];omega⟩ (by dsimp only;omega)
   ·exact ⟨rfl,by dsimp only;omega,by dsimp only;omega,by dsimp only;omega,by dsimp only;omega,by simp only [List.length_nil];omega⟩
   ·dsimp only;omega
  ·rintro ⟨b3,p3,out⟩ ⟨rfl,m1,m2,m3⟩
   dsimp only at m1 m2 m3 ⊢
   exact .pure ⟨rfl,by dsimp only;omega,by dsimp only;omega,by simp [ZbM];omega⟩
 ·refine .bind (ZmQ [113] 300 300 (by omega) (by decide) (by decide) (by omega) (by omega)) ?_
  intro a ha;exact .pure ⟨rfl,by dsimp only;omega,by dsimp only;omega,ha⟩
 ·refine .bind (ZfL 12 h1 (by omega) (by omega) (by omega)) ?_
  rintro ⟨x,b2,p2⟩ ⟨rfl,k1,k2,k3⟩
  dsimp only at k1 k2 k3 ⊢
  refine .bind (P:=fun (o:Str×List Int×Int)=>Zqg b2 p2 12 (fun s=>s.length≤300) o) ?_ ?_
  ·unfold ZbZ.l1
   refine Ret.loop (fun (t:Str×Int×List Int×Int)=>t.2.2.1=b2∧0≤t.2.1∧t.2.1≤12∧p2≤t.2.2.2∧t.2.2.2+t.2.1≤p2+12∧t.1.length+6*t.2.1≤72) (fun t=>t.2.1.toNat) (fun _ (o:Str×List Int×Int)=>Zqg b2 p2 12 (fun s=>s.length≤300) o) ?_ _ _ ?_ ?_
   ·rintro again ⟨out,n,b3,p3⟩ ⟨rfl,q1,q2,q3,q4,q5⟩ ih
    dsimp only at q1 q2 q3 q4 q5
    simp only [ZbZ.l1.step]
    ((try simp (disch:=omega) only [Zan,Zal,Zak,Zad,Zas,ZaN,Zaf,Zaz,Zaw,Zae,Option.map_some,cond_true,cond_false,Int.sub_zero,Int.toNat_natCast]);(try simp only [Zbj,Zdo,Zdp,Zat,Zbs,if_true,if_false]))
    refine .ite (fun hn=>?_) fun hn=>.pure ⟨rfl,by dsimp only;omega,by dsimp only;omega,by dsimp only;omega⟩
    refine .bind (ZtO _ ((h1.up k1).up q3) (by omega) (by decide) (by decide)) ?_
    rintro ⟨y,b4,p4⟩ ⟨rfl,l1,l2,l3⟩
    dsimp only at l1 l2 l3 ⊢
    have hy:y.length≤6:=by
     simp only [List.mem_cons,List.not_mem_nil,or_false] at l3
     rcases l3 with rfl | rfl | rfl | rfl | rfl | rfl | rfl<;>decide
    ((try simp (disch:=omega) only [Zan,Zal,Zak,Zad,Zas,ZaN,Zaf,Zaz,Zaw,Zae,Option.map_some,cond_true,cond_false,Int.sub_zero,Int.toNat_natCast]);(try simp only [Zbj,Zdo,Zdp,Zat,Zbs,if_true,if_false]))
    refine ih _ ⟨rfl,by dsimp only;omega,by dsimp only;omega,by dsimp only;omega,by dsimp only;omega,by simp only [List.length_append];omega⟩ (by dsimp only;omega)
   ·exact ⟨rfl,by dsimp only;omega,by dsimp only;omega,by dsimp only;omega,by dsimp only;omega,by simp only [List.length_nil];omega⟩
   ·dsimp only;omega
  ·rintro ⟨s,b3,p3⟩ ⟨rfl,m1,m2,m3⟩
   dsimp only at m1 m2 m3 ⊢
   exact .pure ⟨rfl,by dsimp only;omega,by dsimp only;omega,m3⟩
end Ev
end
section
namespace Ev
open Go
def ZvU:List Str:=[[97],[98,46,116,120,116],[100,105,114,47,97],[100,105,114,47,98],[120,45,121,95,122],[97,47,98,47,99,47,100],[114,101,97,100,109,101],[],[47],[97,47],[46,46],[97,47,46,46,47,98],[65],[97,32,98],[101,108,101,118,101,110,108,101,116,116,101],[97,47,98,47,99,47,100,47,101],[102,48],[102,49],[102,50],[102,51],[102,52],[102,53]]
theorem Zt7:∀s∈ZvU,s.length≤11:=by decide
end Ev
end
section
namespace Ev
open Go
theorem ZeR (n k:Nat) (hk:k≤64):ZlO .i64 (n:Int) (k:Int)=((n/2^k:Nat):Int):=by
 unfold ZlO
 rw [Int.toNat_natCast,show min k IntKind.i64.bits=k from Nat.min_eq_left hk,show ((2:Int)^k)=((2^k:Nat):Int) by simp,Int.fdiv_eq_ediv_of_nonneg _ (Int.natCast_nonneg _)]
 exact (Int.natCast_ediv n (2^k)).symm
theorem Zel (n k:Nat) (hk:k≤64) (h:n*2^k<9223372036854775808):Zqj .i64 (n:Int) (k:Int)=((n*2^k:Nat):Int):=by
 unfold Zqj
 rw [Int.toNat_natCast,show min k IntKind.i64.bits=k from Nat.min_eq_left hk,show ((2:Int)^k)=((2^k:Nat):Int) by simp,←Int.natCast_mul]
 exact Zf3 (by omega) (by omega)
theorem Zr1 (x y:Nat) (hx:x<9223372036854775808) (hy:y<9223372036854775808):ZjK .i64 (x:Int) (y:Int)=((x &&& y:Nat):Int):=by
 have hz:x &&& y<2^63:=Nat.and_lt_two_pow _ (by omega)
 unfold ZjK
 have e:(BitVec.ofInt IntKind.i64.bits (x:Int) &&& BitVec.ofInt IntKind.i64.bits (y:Int)).toNat=x &&& y:=by
  simp only [BitVec.ofInt_natCast,BitVec.toNat_and,BitVec.toNat_ofNat,show IntKind.i64.bits=64 from rfl]
  rw [Nat.mod_eq_of_lt (by omega),Nat.mod_eq_of_lt (by omega)]
 rw [e,Zf3 (by omega) (by omega)]
theorem Zi6 (x y:Nat) (hx:x<9223372036854775808) (hy:y<9223372036854775808):ior .i64 (x:Int) (y:Int)=((x ||| y:Nat):Int):=by
 have hz:x ||| y<2^63:=Nat.or_lt_two_pow (by omega) (by omega)
 unfold ior
 have e:(BitVec.ofInt IntKind.i64.bits (x:Int) ||| BitVec.ofInt IntKind.i64.bits (y:Int)).toNat=x ||| y:=by
  simp only [BitVec.ofInt_natCast,BitVec.toNat_or,BitVec.toNat_ofNat,show IntKind.i64.bits=64 from rfl]
  rw [Nat.mod_eq_of_lt (by omega),Nat.mod_eq_of_lt (by omega)]
 rw [e,Zf3 (by omega) (by omega)]
theorem ZwQ (x y:Nat) (hx:x<256) (hy:y<256):ior .u8 (x:Int) (y:Int)=((x ||| y:Nat):Int):=by
 have hz:x ||| y<2^8:=Nat.or_lt_two_pow (by omega) (by omega)
 unfold ior
 have e:(BitVec.ofInt IntKind.u8.bits (x:Int) ||| BitVec.ofInt IntKind.u8.bits (y:Int)).toNat=x ||| y:=by
  simp only [BitVec.ofInt_natCast,BitVec.toNat_or,BitVec.toNat_ofNat,show IntKind.u8.bits=8 from rfl]
  rw [Nat.mod_eq_of_lt (by omega),Nat.mod_eq_of_lt (by omega)]
 rw [e,show IntKind.u8.wrap=IntKind.wrap .u8 from rfl]
 have:=wrap_u8' (((x ||| y:Nat)):Int)
 rw [this];omega
where
 wrap_u8' (n:Int):IntKind.wrap .u8 n=n%256:=by simp [IntKind.wrap,IntKind.bits,IntKind.signed]
theorem Zj8 (x:Nat) (hx:x<9223372036854775808):ZjK .i64 (x:Int) 1=((x%2:Nat):Int):=by
 have:=Zr1 x 1 hx (by omega)
 rw [Nat.and_one_is_mod] at this
 exact this
theorem ZkL (x c k:Nat) (h:x<2^k):x ||| c*2^k=x+c*2^k:=by
 have:=Nat.two_pow_add_eq_or_of_lt h c
 rw [Nat.or_comm,Nat.mul_comm c,←this,Nat.add_comm]
theorem ZdA (n k:Nat):n/2^k%2=(n.testBit k).toNat:=by
 rw [Nat.testBit_eq_decide_div_mod_eq]
 have:n/2^k%2<2:=Nat.mod_lt _ (by omega)
 by_cases h:n/2^k%2=1
 ·simp [h]
 ·have:n/2^k%2=0:=by omega
  simp [this]
def ZbB (n:Nat):Nat→List Bool
 | 0=>[]
 | k+1=>ZbB n k++[n.testBit k]
def Zb6:List Bool→Nat
 | []=>0
 | b::l=>b.toNat+2*Zb6 l
theorem Zai (n:Nat):∀k,(ZbB n k).length=k
 | 0=>rfl
 | k+1=>by simp [ZbB,Zai n k]
theorem Zd8 (a b:List Bool):Zb6 (a++b)=Zb6 a+2^a.length*Zb6 b:=by
 induction a with
 | nil=>simp [Zb6]
 | cons x l ih=>
  simp only [List.cons_append,Zb6,ih,List.length_cons,Nat.pow_succ]
  rw [Nat.mul_add,Nat.add_assoc];congr 2
  rw [←Nat.mul_assoc,Nat.mul_comm 2]
theorem Zkj (l:List Bool):Zb6 l<2^l.length:=by
 induction l with
 | nil=>simp [Zb6]
 | cons x l ih=>
  simp only [Zb6,List.length_cons,Nat.pow_succ]
  have:x.toNat≤1:=by cases x<;>decide
  omega
theorem Zki (n:Nat):∀k,Zb6 (ZbB n k)=n%2^k
 | 0=>by simp [ZbB,Zb6,Nat.mod_one]
 | k+1=>by
  rw [ZbB,Zd8,Zki n k,Zai]
  simp only [Zb6,Nat.mul_zero,Nat.add_zero]
  rw [←ZdA,Nat.mod_pow_succ]
def ZeL (l:List Bool):List Int:=(List.range ((l.length+7)/8)).map fun i=>((Zb6 ((l.drop (8*i)).take 8):Nat):Int)
theorem ZcV (l:List Bool):(ZeL l).length=(l.length+7)/8:=by simp [ZeL]
theorem Zrt (l:List Bool) (i:Nat) (h:i<(l.length+7)/8):(ZeL l).getD i 0=((Zb6 ((l.drop (8*i)).take 8):Nat):Int):=by
 simp [ZeL,List.getD,h]
theorem ZsD (l:List Bool) (c:Bool) (h:l.length%8=0):ZeL (l++[c])=ZeL l++[((c.toNat:Nat):Int)]:=by
 apply List.ext_getElem
 ·simp [ZcV];omega
 ·intro i h1 h2
  rw [ZcV,List.length_append,List.length_singleton] at h1
  simp only [ZeL,List.getElem_map,List.getElem_range]
  by_cases hi:i<(l.length+7)/8
  ·rw [List.getElem_append_left (by simpa using hi)]
   simp only [List.getElem_map,List.getElem_range]
   rw [List.drop_append_of_le_length (by omega),List.take_append_of_le_length (by simp;omega)]
  ·rw [List.getElem_append_right (by simp;omega)]
   have:8*i=l.length:=by omega
   rw [this,List.drop_left]
   simp [Zb6]
theorem ZsC (l:List Bool) (c:Bool) (h:l.length%8≠0) :
  ZeL (l++[c])=(ZeL l).set (l.length/8) ((ZeL l).getD (l.length/8) 0+(c.toNat*2^(l.length%8):Nat)):=by
 apply List.ext_getElem
 ·simp [ZcV];omega
 ·intro i h1 h2
  rw [ZcV,List.length_append,List.length_singleton] at h1
  have hi:i<(l.length+7)/8:=by omega
  rw [List.getElem_set]
  simp only [ZeL,List.getElem_map,List.getElem_range]
  split
  ·rename_i e
   have:=Zrt l (l.length/8) (by omega)
   unfold ZeL at this
   rw [this,←e]
   have hl:(l.drop (8*(l.length/8))).length=l.length%8:=by rw [List.length_drop];omega
   rw [List.drop_append_of_le_length (by omega),List.take_of_length_le (by simp;omega),List.take_of_length_le (by omega),Zd8,hl]
   simp only [Zb6,Nat.mul_zero,Nat.add_zero]
   rw [Nat.mul_comm (2^_)]
   omega
  ·rename_i e
   rw [List.drop_append_of_le_length (by omega),List.take_append_of_le_length (by simp;omega)]
theorem ZvI (l:List Bool) (h:l.length%8≠0):∃x:Nat,(ZeL l).getD (l.length/8) 0=(x:Int)∧x<2^(l.length%8):=by
 refine ⟨_,Zrt l _ (by omega),?_⟩
 have:=Zkj ((l.drop (8*(l.length/8))).take 8)
 have hl:((l.drop (8*(l.length/8))).take 8).length=l.length%8:=by simp;omega
 rwa [hl] at this
theorem Ztz (n k:Nat) (hn:n<9223372036854775808) (hk:k≤62):∀(m i:Nat) (l:List Bool),i+m=k→l.length+m≤100000000→
  Zen.l0 (m+1) ((n:Int),(k:Int),(i:Int),(l.length:Int),ZeL l)=some ((((l++((ZbB n k).drop i)).length:Nat):Int),ZeL (l++((ZbB n k).drop i)))
 | 0,i,l,hi,hl=>by
  rw [Zen.l0.succ]
  simp only [Zen.l0.step]
  rw [Za0 (by omega),List.drop_eq_nil_of_le (by rw [Zai];omega)]
  simp
 | m+1,i,l,hi,hl=>by
  have ik:i<k:=by omega
  have hd:(ZbB n k).drop i=n.testBit i::(ZbB n k).drop (i+1):=by
   have e:(ZbB n k)[i]'(by rw [Zai];exact ik)=n.testBit i:=by
    clear hi hl hk
    induction k with
    | zero=>omega
    | succ k ih=>
     simp only [ZbB]
     by_cases h:i<k
     ·rw [List.getElem_append_left (by rw [Zai];exact h)];exact ih h
     ·have:i=k:=by omega
      subst this
      rw [List.getElem_append_right (by rw [Zai];omega)]
      simp
   rw [List.drop_eq_getElem_cons (by rw [Zai];exact ik),e]
  have ih:=Ztz n k hn hk m (i+1) (l++[n.testBit i]) (by omega) (by simp;omega)
  rw [Zen.l0.succ]
  simp only [Zen.l0.step]
  rw [ZaZ ik,cond_true]
  have hmod:((l.length:Int)).tmod 8=((l.length%8:Nat):Int):=by rw [Zaz (by omega)];omega
  have hdiv:((l.length:Int)).tdiv 8=((l.length/8:Nat):Int):=by rw [Zaw (by omega)];omega
  have hbit:ZjK .i64 (ZlO .i64 (n:Int) (i:Int)) 1=(((n.testBit i).toNat:Nat):Int):=by
   rw [ZeR n i (by omega),Zj8 _ (Nat.lt_of_le_of_lt (Nat.div_le_self _ _) hn),ZdA]
  have hc:(n.testBit i).toNat≤1:=by cases n.testBit i<;>decide
  have hp:2^(l.length%8)≤2^7:=Nat.pow_le_pow_right (by omega) (by omega)
  have hle:(n.testBit i).toNat*2^(l.length%8)≤128:=by
   calc _≤1*2^7:=Nat.mul_le_mul hc hp
    _=128:=by decide
  have hshl:Zqj .i64 (((n.testBit i).toNat:Nat):Int) ((l.length%8:Nat):Int)=(((n.testBit i).toNat*2^(l.length%8):Nat):Int):=Zel _ _ (by omega) (by omega)
  have hwr:IntKind.wrap .u8 (((n.testBit i).toNat*2^(l.length%8):Nat):Int)=(((n.testBit i).toNat*2^(l.length%8):Nat):Int):=by
   rw [show IntKind.wrap .u8 (((n.testBit i).toNat*2^(l.length%8):Nat):Int)=(((n.testBit i).toNat*2^(l.length%8):Nat):Int)%256 by simp [IntKind.wrap,IntKind.bits,IntKind.signed]]
   omega
  simp only [hmod]
  by_cases h0:l.length%8=0
  ·have e0:(((l.length%8:Nat):Int)==0)=true:=by simp [h0]
   simp only [e0,cond_true]
   rw [Zab _ (Zfa (by simp [ZcV];omega))]
   simp only [Zae,hmod,hdiv,hbit,hshl,hwr]
   have hlt:l.length/8<(ZeL l++[0]).length:=by rw [List.length_append,ZcV];simp;omega
   have hat:l.length/8=(ZeL l).length:=by rw [ZcV];omega
   ((try simp (disch:=omega) only [Zan,Zal,Zak,Zad,Zas,ZaN,Zaf,Zaz,Zaw,Zae,Option.map_some,cond_true,cond_false,Int.sub_zero,Int.toNat_natCast]);(try simp only [Zbj,Zdo,Zdp,Zat,Zbs,if_true,if_false]))
   rw [hat,List.getD_eq_getElem?_getD,List.getElem?_concat_length,Option.getD_some,←hat]
   have hz:ior .u8 0 (((n.testBit i).toNat*2^(l.length%8):Nat):Int)=(((n.testBit i).toNat:Nat):Int):=by
    have:=ZwQ 0 ((n.testBit i).toNat*2^(l.length%8)) (by omega) (by omega)
    rw [show ((0:Nat):Int)=0 from rfl] at this
    rw [this,Nat.zero_or,h0];simp
   rw [hz,hat,List.set_append_right _ _ (Nat.le_refl _),Nat.sub_self,List.set_cons_zero,←ZsD l _ h0]
   rw [show ((i:Int)+1)=((i+1:Nat):Int) by omega,show ((l.length:Int)+1)=(((l++[n.testBit i]).length:Nat):Int) by simp]
   rw [ih,hd,List.append_assoc];rfl
  ·have e0:(((l.length%8:Nat):Int)==0)=false:=by simp;omega
   simp only [e0,cond_false,Zae,hmod,hdiv,hbit,hshl,hwr]
   have hlt:l.length/8<(ZeL l).length:=by rw [ZcV];omega
   obtain ⟨x,hx,hxl⟩:=ZvI l h0
   have hx8:x<128:=Nat.lt_of_lt_of_le hxl hp
   ((try simp (disch:=omega) only [Zan,Zal,Zak,Zad,Zas,ZaN,Zaf,Zaz,Zaw,Zae,Option.map_some,cond_true,cond_false,Int.sub_zero,Int.toNat_natCast]);(try simp only [Zbj,Zdo,Zdp,Zat,Zbs,if_true,if_false]))
   rw [hx]
   rw [ZwQ x _ (by omega) (by omega),ZkL x _ _ hxl]
   have:=ZsC l (n.testBit i) h0
   rw [hx] at this
   rw [show (((x+(n.testBit i).toNat*2^(l.length%8):Nat)):Int)=(x:Int)+(((n.testBit i).toNat*2^(l.length%8):Nat):Int) by omega,←this]
   rw [show ((i:Int)+1)=((i+1:Nat):Int) by omega,show ((l.length:Int)+1)=(((l++[n.testBit i]).length:Nat):Int) by simp]
   rw [ih,hd,List.append_assoc];rfl
theorem Zd7 (n k:Nat) (hn:n<9223372036854775808) (hk:k≤62) (l:List Bool) (hl:l.length≤90000000) :
  Zen (n:Int) (k:Int) (l.length:Int) (ZeL l)=some ((((l++ZbB n k).length:Nat):Int),ZeL (l++ZbB n k)):=by
 unfold Zen
 have:=Ztz n k hn hk k 0 l (by omega) (by omega)
 rw [ZaJ,show (0:Int)=((0:Nat):Int) from rfl,this]
 simp
end Ev
end
section
namespace Ev
open Go
theorem Zh2 (n:Nat):∀(k i:Nat) (h:i<k),(ZbB n k)[i]'(by rw [Zai];exact h)=n.testBit i
 | 0,i,h=>by omega
 | k+1,i,h=>by
  simp only [ZbB]
  by_cases hi:i<k
  ·rw [List.getElem_append_left (by rw [Zai];exact hi)];exact Zh2 n k i hi
  ·have:i=k:=by omega
   subst this
   rw [List.getElem_append_right (by rw [Zai];omega)]
   simp
theorem ZrR:∀(m:Nat) (o:Nat),m≤62→o*2^m<9223372036854775808→Zcr.l0 (m+1) ((m:Int),(o:Int))=some ((o*2^m:Nat):Int)
 | 0,o,hm,h=>by
  rw [Zcr.l0.succ];simp only [Zcr.l0.step]
  ((try simp (disch:=omega) only [Zan,Zal,Zak,Zad,Zas,ZaN,Zaf,Zaz,Zaw,Zae,Option.map_some,cond_true,cond_false,Int.sub_zero,Int.toNat_natCast]);(try simp only [Zbj,Zdo,Zdp,Zat,Zbs,if_true,if_false]))
  rw [if_neg (by omega)];simp
 | m+1,o,hm,h=>by
  have h2:o*2^(m+1)=2*o*2^m:=by rw [Nat.pow_succ,Nat.mul_comm (2^m) 2,←Nat.mul_assoc,Nat.mul_comm o 2]
  have hle:2*o≤2*o*2^m:=Nat.le_mul_of_pos_right _ (Nat.two_pow_pos m)
  rw [Zcr.l0.succ];simp only [Zcr.l0.step]
  ((try simp (disch:=omega) only [Zan,Zal,Zak,Zad,Zas,ZaN,Zaf,Zaz,Zaw,Zae,Option.map_some,cond_true,cond_false,Int.sub_zero,Int.toNat_natCast]);(try simp only [Zbj,Zdo,Zdp,Zat,Zbs,if_true,if_false]))
  rw [if_pos (by omega),show (((m+1:Nat):Int)-1)=(m:Int) by omega,show (2*(o:Int))=((2*o:Nat):Int) by omega,ZrR m (2*o) (by omega) (by omega),h2]
theorem Zg9 (n:Nat) (hn:n≤62):Zcr (n:Int)=some ((2^n:Nat):Int):=by
 unfold Zcr
 have hp:2^n≤2^62:=Nat.pow_le_pow_right (by omega) hn
 have:=ZrR n 1 hn (by omega)
 rw [show ((n:Int)-0).toNat+1=n+1 by omega,show (1:Int)=((1:Nat):Int) from rfl,this,Nat.one_mul]
 rfl
def oT (l:List Bool):List Int:=(List.range (l.length/8)).map fun i=>((Zb6 ((l.drop (8*i)).take 8):Nat):Int)
def oL (l:List Bool):Nat:=Zb6 (l.drop (8*(l.length/8)))
theorem oL_lt (l:List Bool):oL l<2^(l.length%8):=by
 have:=Zkj (l.drop (8*(l.length/8)))
 have hl:(l.drop (8*(l.length/8))).length=l.length%8:=by rw [List.length_drop];omega
 rwa [hl] at this
theorem Zt2 (l:List Bool):(oT l).length=l.length/8:=by simp [oT]
theorem Zxc (l:List Bool) (c:Bool) (h:l.length%8≠7):oL (l++[c])=oL l+c.toNat*2^(l.length%8):=by
 unfold oL
 have e:(l++[c]).length/8=l.length/8:=by simp;omega
 have hl:(l.drop (8*(l.length/8))).length=l.length%8:=by rw [List.length_drop];omega
 rw [e,List.drop_append_of_le_length (by omega),Zd8,hl]
 simp only [Zb6,Nat.mul_zero,Nat.add_zero]
 rw [Nat.mul_comm (2^_)]
theorem Zxa (l:List Bool) (c:Bool) (h:l.length%8≠7):oT (l++[c])=oT l:=by
 unfold oT
 have e:(l++[c]).length/8=l.length/8:=by simp;omega
 rw [e]
 apply List.map_congr_left
 intro i hi
 have:=List.mem_range.1 hi
 rw [List.drop_append_of_le_length (by omega),List.take_append_of_le_length (by simp;omega)]
theorem Zxb (l:List Bool) (c:Bool) (h:l.length%8=7):oT (l++[c])=oT l++[((oL l+c.toNat*2^(l.length%8):Nat):Int)]∧oL (l++[c])=0:=by
 have e:(l++[c]).length/8=l.length/8+1:=by simp;omega
 have hl:(l.drop (8*(l.length/8))).length=l.length%8:=by rw [List.length_drop];omega
 constructor
 ·unfold oT oL
  rw [e,List.range_succ,List.map_append,List.map_singleton]
  congr 1
  ·apply List.map_congr_left
   intro i hi
   have:=List.mem_range.1 hi
   rw [List.drop_append_of_le_length (by omega),List.take_append_of_le_length (by simp;omega)]
  ·rw [List.drop_append_of_le_length (by omega),List.take_of_length_le (by simp;omega),Zd8,hl]
   simp only [Zb6,Nat.mul_zero,Nat.add_zero]
   rw [Nat.mul_comm (2^_)]
 ·unfold oL
  rw [e,List.drop_eq_nil_of_le (by simp;omega)];rfl
theorem Zt3 (n k:Nat) (hn:n<4611686018427387904) (hk:k≤1000):∀(m i:Nat) (l:List Bool),i+m=k→l.length+m≤100000000→
  ZdG.l0 (m+1) (((n/2^i:Nat):Int),(k:Int),(i:Int),(oL l:Int),((l.length%8:Nat):Int),oT l) =
   some ((oL (l++(ZbB n k).drop i):Int),(((l++(ZbB n k).drop i).length%8:Nat):Int),oT (l++(ZbB n k).drop i))
 | 0,i,l,hi,hl=>by
  rw [ZdG.l0.succ];simp only [ZdG.l0.step]
  rw [Za0 (by omega),List.drop_eq_nil_of_le (by rw [Zai];omega)]
  simp
 | m+1,i,l,hi,hl=>by
  have ik:i<k:=by omega
  have hd:(ZbB n k).drop i=n.testBit i::(ZbB n k).drop (i+1):=by
   rw [List.drop_eq_getElem_cons (by rw [Zai];exact ik),Zh2 n k i ik]
  have ih:=Zt3 n k hn hk m (i+1) (l++[n.testBit i]) (by omega) (by simp;omega)
  have hL:=oL_lt l
  have hp:2^(l.length%8)≤2^7:=Nat.pow_le_pow_right (by omega) (by omega)
  have hc:(n.testBit i).toNat≤1:=by cases n.testBit i<;>decide
  have hle:(n.testBit i).toNat*2^(l.length%8)≤1*2^(l.length%8):=Nat.mul_le_mul_right _ hc
  have hdn:n/2^i≤n:=Nat.div_le_self _ _
  have hbit:(((n/2^i:Nat):Int)).tmod 2=(((n.testBit i).toNat:Nat):Int):=by
   rw [Zaz (Int.natCast_nonneg _),←ZdA];exact (Int.natCast_emod _ 2).symm
  have hhalf:(((n/2^i:Nat):Int)).tdiv 2=((n/2^(i+1):Nat):Int):=by
   rw [Zaw (Int.natCast_nonneg _),Nat.pow_succ,←Nat.div_div_eq_div_mul];exact (Int.natCast_ediv _ 2).symm
  rw [ZdG.l0.succ];simp only [ZdG.l0.step]
  rw [ZaZ ik,cond_true,Zg9 _ (by omega)]
  simp only [Zae,hbit,hhalf]
  rw [show (((n.testBit i).toNat:Nat):Int)*((2^(l.length%8):Nat):Int)=(((n.testBit i).toNat*2^(l.length%8):Nat):Int) by rw [Int.natCast_mul]]
  have hdn2:n/2^(i+1)≤n:=Nat.div_le_self _ _
  have hw:w64 ((n/2^(i+1):Nat):Int)=((n/2^(i+1):Nat):Int):=by
   generalize n/2^(i+1)=q at hdn2 ⊢
   exact Zaf (by omega) (by omega)
  simp only [hw]
  by_cases h7:l.length%8=7
  ·obtain ⟨f1,f2⟩:=Zxb l (n.testBit i) h7
   have e8:((((l.length%8:Nat):Int)+1)==8)=true:=by simp;omega
   ((try simp (disch:=omega) only [Zan,Zal,Zak,Zad,Zas,ZaN,Zaf,Zaz,Zaw,Zae,Option.map_some,cond_true,cond_false,Int.sub_zero,Int.toNat_natCast,e8]);(try simp only [Zbj,Zdo,Zdp,Zat,Zbs,if_true,if_false,e8]))
   rw [Zab _ (Zfa (by simp [Zt2];omega))]
   have hwr:IntKind.wrap .u8 ((oL l:Int)+(((n.testBit i).toNat*2^(l.length%8):Nat):Int))=(((oL l+(n.testBit i).toNat*2^(l.length%8):Nat)):Int):=by
    rw [show IntKind.wrap .u8 ((oL l:Int)+(((n.testBit i).toNat*2^(l.length%8):Nat):Int))=((oL l:Int)+(((n.testBit i).toNat*2^(l.length%8):Nat):Int))%256 by simp [IntKind.wrap,IntKind.bits,IntKind.signed]]
    omega
   rw [hwr,←f1]
   have hm:(l++[n.testBit i]).length%8=0:=by simp;omega
   rw [f2,hm] at ih
   rw [show ((i:Int)+1)=((i+1:Nat):Int) by omega]
   rw [show (0:Int)=((0:Nat):Int) from rfl,ih,hd,List.append_assoc];rfl
  ·have e8:((((l.length%8:Nat):Int)+1)==8)=false:=by simp;omega
   ((try simp (disch:=omega) only [Zan,Zal,Zak,Zad,Zas,ZaN,Zaf,Zaz,Zaw,Zae,Option.map_some,cond_true,cond_false,Int.sub_zero,Int.toNat_natCast,e8]);(try simp only [Zbj,Zdo,Zdp,Zat,Zbs,if_true,if_false,e8]))
   have hm:(l++[n.testBit i]).length%8=l.length%8+1:=by simp;omega
   rw [Zxc l _ h7,Zxa l _ h7,hm] at ih
   rw [show ((i:Int)+1)=((i+1:Nat):Int) by omega,show (((l.length%8:Nat):Int)+1)=((l.length%8+1:Nat):Int) by omega,
    show (oL l:Int)+(((n.testBit i).toNat*2^(l.length%8):Nat):Int)=(((oL l+(n.testBit i).toNat*2^(l.length%8):Nat)):Int) by omega]
   rw [ih,hd,List.append_assoc];rfl
theorem ZdP (n k:Nat) (hn:n<4611686018427387904) (hk:k≤1000) (l:List Bool) (hl:l.length+k≤90000000) :
  ZdG (n:Int) (k:Int) (oL l:Int) ((l.length%8:Nat):Int) (oT l)=some ((oL (l++ZbB n k):Int),(((l++ZbB n k).length%8:Nat):Int),oT (l++ZbB n k)):=by
 unfold ZdG
 have:=Zt3 n k hn hk k 0 l (by omega) (by omega)
 rw [ZaJ]
 simp only [Nat.pow_zero,Nat.div_one,List.drop_zero] at this
 rw [show (0:Int)=((0:Nat):Int) from rfl,this]
 rfl
theorem ZoX:∀k,ZbB 0 k=List.replicate k false
 | 0=>rfl
 | k+1=>by rw [ZbB,ZoX k,List.replicate_succ'];simp
def Zhg (l:List Bool):List Bool:=l++List.replicate ((8-l.length%8)%8) false
theorem Zfr (l:List Bool):(Zhg l).length=8*((l.length+7)/8):=by simp [Zhg];omega
theorem Zh0 (l:List Bool):ZeL l=oT (Zhg l)∧ZeL (Zhg l)=ZeL l:=by
 have key:∀i,Zb6 (((Zhg l).drop (8*i)).take 8)=Zb6 ((l.drop (8*i)).take 8):=fun i=>by
  have z:∀k,Zb6 (List.replicate k false)=0:=fun k=>by induction k with
   | zero=>rfl
   | succ k ih=>rw [List.replicate_succ];simp [Zb6,ih]
  have vt:∀(a b:List Bool) k,Zb6 b=0→(∀j,Zb6 (b.take j)=0)→Zb6 ((a++b).take k)=Zb6 (a.take k):=fun a b k h1 h2=>by
   rw [List.take_append,Zd8,h2];simp
  unfold Zhg
  by_cases h:8*i≤l.length
  ·rw [List.drop_append_of_le_length h]
   exact vt _ _ _ (z _) (fun j=>by rw [List.take_replicate];exact z _)
  ·rw [List.drop_eq_nil_of_le (by omega:l.length≤8*i),List.drop_append,List.drop_eq_nil_of_le (by omega:l.length≤8*i),List.nil_append,List.drop_replicate,List.take_replicate,z];rfl
 constructor
 ·unfold ZeL oT
  rw [Zfr,show 8*((l.length+7)/8)/8=(l.length+7)/8 by omega]
  exact List.map_congr_left fun i _=>by rw [key]
 ·unfold ZeL
  rw [Zfr,show (8*((l.length+7)/8)+7)/8=(l.length+7)/8 by omega]
  exact List.map_congr_left fun i _=>by rw [key]
theorem ZoV (l:List Bool) (hl:l.length≤80000000):Zdf (oL l:Int) ((l.length%8:Nat):Int) (oT l)=some ((oL (Zhg l):Int),0,ZeL l):=by
 unfold Zdf
 ((try simp (disch:=omega) only [Zan,Zal,Zak,Zad,Zas,ZaN,Zaf,Zaz,Zaw,Zae,Option.map_some,cond_true,cond_false,Int.sub_zero,Int.toNat_natCast]);(try simp only [Zbj,Zdo,Zdp,Zat,Zbs,if_true,if_false]))
 by_cases h:l.length%8=0
 ·rw [if_neg (by omega)]
  have e:Zhg l=l:=by unfold Zhg;rw [h];simp
  rw [(Zh0 l).1,e,h];rfl
 ·rw [if_pos (by omega),show (8-((l.length%8:Nat):Int))=((8-l.length%8:Nat):Int) by omega,show (0:Int)=((0:Nat):Int) from rfl,ZdP 0 _ (by omega) (by omega) l (by omega)]
  simp only [Zae,ZoX]
  have e:l++List.replicate (8-l.length%8) false=Zhg l:=by unfold Zhg;rw [Nat.mod_eq_of_lt (by omega:8-l.length%8<8)]
  rw [e,(Zh0 l).1,Zfr]
  simp
def Znr (n k:Nat):Nat:=Zb6 (ZbB n k).reverse
theorem Zor (n k:Nat):Znr n (k+1)=2*Znr n k+n/2^k%2:=by
 unfold Znr
 rw [ZbB,List.reverse_append]
 simp only [List.reverse_cons,List.reverse_nil,List.nil_append,List.singleton_append,Zb6]
 rw [ZdA];omega
theorem Znq (n k:Nat):Znr n k<2^k:=by
 have:=Zkj (ZbB n k).reverse
 rwa [List.length_reverse,Zai] at this
theorem ZlJ (n k:Nat) (hn:n<9223372036854775808) (hk:k≤60):∀(m i:Nat),i+m=k→Zbr.l0 (m+1) ((n:Int),(Znr n i:Int),(k:Int),(i:Int))=some (Znr n k:Int)
 | 0,i,hi=>by
  rw [Zbr.l0.succ];simp only [Zbr.l0.step]
  rw [Za0 (by omega)]
  have:i=k:=by omega
  subst this;rfl
 | m+1,i,hi=>by
  have ht:=Znq n i
  have hp:2^i≤2^60:=Nat.pow_le_pow_right (by omega) (by omega)
  have hm:n/2^i%2<2:=Nat.mod_lt _ (by omega)
  rw [Zbr.l0.succ];simp only [Zbr.l0.step]
  rw [ZaZ (by omega),cond_true,ZeR n i (by omega),Zj8 _ (Nat.lt_of_le_of_lt (Nat.div_le_self _ _) hn)]
  ((try simp (disch:=omega) only [Zan,Zal,Zak,Zad,Zas,ZaN,Zaf,Zaz,Zaw,Zae,Option.map_some,cond_true,cond_false,Int.sub_zero,Int.toNat_natCast]);(try simp only [Zbj,Zdo,Zdp,Zat,Zbs,if_true,if_false]))
  rw [show 2*(Znr n i:Int)+((n/2^i%2:Nat):Int)=(Znr n (i+1):Int) by rw [Zor];omega,show ((i:Int)+1)=((i+1:Nat):Int) by omega]
  exact ZlJ n k hn hk m (i+1) (by omega)
theorem Zdm (n a b:Int):Zbn n a b=some (decide (a≤n∧n≤b)):=by
 unfold Zbn
 by_cases h1:n≥a<;>by_cases h2:n≤b<;>simp [h1,h2]<;>omega
theorem Zj6 (n a b:Int):ZgA n a b=some (decide (a≤n∧n≤b)):=Zdm n a b
theorem ZsB (n k:Nat) (hk:k≤16) (hn:n<2^k):ZdO (n:Int) (k:Int)=some true:=by
 unfold ZdO
 have hp:2^k≤2^16:=Nat.pow_le_pow_right (by omega) hk
 rw [Zdm]
 simp only [Zae]
 have h1:decide ((0:Int)≤(k:Int)∧(k:Int)≤16)=true:=by simp;omega
 have:=Zel 1 k (by omega) (by omega)
 rw [show ((1:Nat):Int)=1 from rfl] at this
 rw [h1,cond_true,this]
 ((try simp (disch:=omega) only [Zan,Zal,Zak,Zad,Zas,ZaN,Zaf,Zaz,Zaw,Zae,Option.map_some,cond_true,cond_false,Int.sub_zero,Int.toNat_natCast]);(try simp only [Zbj,Zdo,Zdp,Zat,Zbs,if_true,if_false]))
 rw [Zdm]
 have h2:decide ((0:Int)≤(n:Int)∧(n:Int)≤((1*2^k:Nat):Int)-1)=true:=by
  rw [decide_eq_true_eq];omega
 rw [h2];rfl
theorem Zq7 (n k:Nat) (hk:k≤16) (hn:n<2^k):Zbr (n:Int) (k:Int)=some (Znr n k:Int):=by
 have hp:2^k≤2^16:=Nat.pow_le_pow_right (by omega) hk
 unfold Zbr
 rw [ZsB n k hk hn]
 simp only [Zae,Bool.not_true,cond_false]
 have:=ZlJ n k (by omega) (by omega) k 0 (by omega)
 rw [ZaJ]
 rw [show (Znr n 0:Int)=0 from rfl,show ((0:Nat):Int)=0 from rfl] at this
 rw [this];rfl
theorem Zpu (n k:Nat) (hn:n<4611686018427387904) (hk:k≤60):∀(m i:Nat),i+m=k→ZcL.l0 (m+1) (((n/2^i:Nat):Int),(k:Int),(Znr n i:Int),(i:Int))=some (Znr n k:Int)
 | 0,i,hi=>by
  rw [ZcL.l0.succ];simp only [ZcL.l0.step]
  rw [Za0 (by omega)]
  have:i=k:=by omega
  subst this;rfl
 | m+1,i,hi=>by
  have ht:=Znq n i
  have hp:2^i≤2^60:=Nat.pow_le_pow_right (by omega) (by omega)
  have hm:n/2^i%2<2:=Nat.mod_lt _ (by omega)
  have hdn:n/2^i≤n:=Nat.div_le_self _ _
  have hts:Znr n (i+1)=2*Znr n i+n/2^i%2:=Zor n i
  have hq:n/2^(i+1)=n/2^i/2:=by rw [Nat.pow_succ,←Nat.div_div_eq_div_mul]
  have ih:=Zpu n k hn hk m (i+1) (by omega)
  rw [hq] at ih
  rw [ZcL.l0.succ];simp only [ZcL.l0.step]
  rw [ZaZ (by omega),cond_true]
  generalize n/2^i=q at *
  ((try simp (disch:=omega) only [Zan,Zal,Zak,Zad,Zas,ZaN,Zaf,Zaz,Zaw,Zae,Option.map_some,cond_true,cond_false,Int.sub_zero,Int.toNat_natCast]);(try simp only [Zbj,Zdo,Zdp,Zat,Zbs,if_true,if_false]))
  rw [show 2*(Znr n i:Int)+(q:Int)%2=(Znr n (i+1):Int) by omega,show ((i:Int)+1)=((i+1:Nat):Int) by omega,
   show (q:Int)/2=((q/2:Nat):Int) by omega]
  exact ih
theorem Zuw (n k:Nat) (hn:n<4611686018427387904) (hk:k≤60):ZcL (n:Int) (k:Int)=some (Znr n k:Int):=by
 unfold ZcL
 have:=Zpu n k hn hk k 0 (by omega)
 rw [ZaJ]
 simp only [Nat.pow_zero,Nat.div_one] at this
 rw [show (Znr n 0:Int)=0 from rfl,show ((0:Nat):Int)=0 from rfl] at this
 rw [this];rfl
def msb (c k:Nat):List Bool:=(ZbB c k).reverse
theorem ZoY:∀(l:List Bool),ZbB (Zb6 l) l.length=l:=by
 intro l
 apply List.ext_getElem
 ·rw [Zai]
 ·intro i h1 h2
  rw [Zh2 _ _ _ h2]
  induction l generalizing i with
  | nil=>simp at h2
  | cons b l ih=>
   cases i with
   | zero=>
    simp only [Zb6,List.getElem_cons_zero]
    rw [Nat.testBit_zero]
    cases b<;>simp<;>omega
   | succ i=>
    simp only [Zb6,List.getElem_cons_succ]
    rw [Nat.testBit_succ,show (b.toNat+2*Zb6 l)/2=Zb6 l by cases b<;>simp<;>omega]
    exact ih i (by rw [Zai];simpa using h2) (by simpa using h2)
theorem ZoZ (n k:Nat):ZbB (Znr n k) k=msb n k:=by
 have:=ZoY (ZbB n k).reverse
 rw [List.length_reverse,Zai] at this
 exact this
end Ev
end
section
namespace Ev
open Go
def ZcT:Str→List Bool
 | []=>[]
 | c::s=>ZbB c.toNat 8++ZcT s
theorem Zcy:∀s:Str,(ZcT s).length=8*s.length
 | []=>rfl
 | c::s=>by simp [ZcT,Zai,Zcy s];omega
theorem Ziv:∀s t:Str,ZcT (s++t)=ZcT s++ZcT t
 | [],t=>rfl
 | c::s,t=>by simp [ZcT,Ziv s t]
theorem Zne:∀(s:Str) (n:Nat) (h:n<8*s.length),(ZcT s)[n]'(by rw [Zcy];exact h)=((s.getD (n/8) 0).toNat).testBit (n%8)
 | [],n,h=>by simp at h
 | c::s,n,h=>by
  simp only [ZcT]
  by_cases h8:n<8
  ·rw [List.getElem_append_left (by rw [Zai];exact h8),Zh2 _ _ _ h8,show n/8=0 by omega,show n%8=n by omega];rfl
  ·rw [List.getElem_append_right (by rw [Zai];omega)]
   simp only [Zai]
   have:=Zne s (n-8) (by simp at h;omega)
   rw [this,show n/8=(n-8)/8+1 by omega,show (n-8)%8=n%8 by omega];rfl
def Rs (s:Str) (at_:Int) (bad:Bool):Option (List Bool)→Prop
 | some l=>bad=false∧∃n:Nat,at_=(n:Int)∧n≤8*s.length∧(ZcT s).drop n=l
 | none=>bad=true∧∃n:Nat,at_=(n:Int)∧n≤8*s.length
theorem Rs.at {s:Str} {at_:Int} {bad:Bool} {m:Option (List Bool)} (h:Rs s at_ bad m):∃n:Nat,at_=(n:Int)∧n≤8*s.length:=by
 cases m with
 | none=>exact h.2
 | some l=>obtain ⟨_,n,a,b,_⟩:=h;exact ⟨n,a,b⟩
theorem Rs.fail {s:Str} {at_:Int} {bad:Bool} {m:Option (List Bool)} (h:Rs s at_ bad m):Rs s at_ true none:=⟨rfl,h.at⟩
theorem Rs.len {s:Str} {at_:Int} {bad:Bool} {l:List Bool} (h:Rs s at_ bad (some l)):at_=((8*s.length-l.length:Nat):Int)∧l.length≤8*s.length:=by
 obtain ⟨_,n,a,b,c⟩:=h
 have:=congrArg List.length c
 rw [List.length_drop,Zcy] at this
 omega
theorem Rs.start (s:Str):Rs s 0 false (some (ZcT s)):=⟨rfl,0,rfl,by omega,rfl⟩
def Zl8:Option (List Bool)→Option (List Bool)
 | some (_::l)=>some l
 | _=>none
def Zvm (s:Str) (m:Option (List Bool)) (r:Int×Str×Int×Bool):Prop:=
 r.2.1=s∧∃b:Bool,r.1=((b.toNat:Nat):Int)∧Rs s r.2.2.1 r.2.2.2 (Zl8 m)∧∀c l,m=some (c::l)→b=c
theorem ZqA (s:Str) (n:Nat) (bad:Bool) (hs:s.length≤1000000000) (hlt:n<8*s.length) :
  ZhB s (n:Int) bad=some (((((s.getD (n/8) 0).toNat.testBit (n%8)).toNat:Nat):Int),s,((n+1:Nat):Int),bad):=by
 unfold ZhB
 have hmod:((n:Int)).tmod 8=((n%8:Nat):Int):=by rw [Zaz (by omega)];omega
 have hdiv:((n:Int)).tdiv 8=((n/8:Nat):Int):=by rw [Zaw (by omega)];omega
 simp only [hmod,hdiv]
 ((try simp (disch:=omega) only [Zan,Zal,Zak,Zad,Zas,ZaN,Zaf,Zaz,Zaw,Zae,Option.map_some,cond_true,cond_false,Int.sub_zero,Int.toNat_natCast]);(try simp only [Zbj,Zdo,Zdp,Zat,Zbs,if_true,if_false]))
 rw [if_neg (by omega)]
 have hc:(s.getD (n/8) 0).toNat<256:=(s.getD (n/8) 0).toNat_lt
 have hbit:ZjK .i64 (ZlO .i64 (w64 (((s.getD (n/8) 0).toNat:Nat):Int)) ((n%8:Nat):Int)) 1=((((s.getD (n/8) 0).toNat.testBit (n%8)).toNat:Nat):Int):=by
  rw [Zaf (by omega) (by omega),ZeR _ _ (by omega),Zj8 _ (Nat.lt_of_le_of_lt (Nat.div_le_self _ _) (by omega)),ZdA]
 rw [hbit,show ((n:Int)+1)=((n+1:Nat):Int) by omega]
theorem ZiT {s:Str} {at_:Int} {bad:Bool} {m:Option (List Bool)} (hs:s.length≤1000000000) (h:Rs s at_ bad m):Ret (ZhB s at_ bad) (Zvm s m):=by
 obtain ⟨n,rfl,hn⟩:=h.at
 unfold ZhB
 by_cases hlt:n<8*s.length
 ·have hb0:=ZqA s n bad hs hlt
  unfold ZhB at hb0
  rw [hb0]
  refine .pure ⟨rfl,_,rfl,?_,?_⟩
  ·cases m with
   | none=>exact ⟨h.1,n+1,rfl,by omega⟩
   | some l=>
    obtain ⟨hb,n',e,_,hd⟩:=h
    have:n'=n:=by omega
    subst this
    rw [List.drop_eq_getElem_cons (by rw [Zcy];exact hlt)] at hd
    subst hd
    exact ⟨hb,n'+1,rfl,by omega,rfl⟩
  ·rintro c l rfl
   obtain ⟨hb,n',e,_,hd⟩:=h
   have:n'=n:=by omega
   subst this
   rw [List.drop_eq_getElem_cons (by rw [Zcy];exact hlt),Zne s n' hlt] at hd
   exact (List.cons.inj hd).1
 ·((try simp (disch:=omega) only [Zan,Zal,Zak,Zad,Zas,ZaN,Zaf,Zaz,Zaw,Zae,Option.map_some,cond_true,cond_false,Int.sub_zero,Int.toNat_natCast]);(try simp only [Zbj,Zdo,Zdp,Zat,Zbs,if_true,if_false]))
  rw [if_pos (by omega)]
  refine .pure ⟨rfl,false,rfl,?_,?_⟩
  ·cases m with
   | none=>exact ⟨rfl,n,rfl,hn⟩
   | some l=>
    have:=h.len
    have:l=[]:=List.length_eq_zero_iff.1 (by omega)
    subst this
    exact ⟨rfl,n,rfl,hn⟩
  ·rintro c l rfl
   have:=h.len
   simp at this;omega
theorem ZtK (s:Str) (n:Nat) (bad:Bool) (hs:s.length≤1000000000) (hn:n≤8*s.length):ZiN s (n:Int) bad=ZhB s (n:Int) bad:=by
 unfold ZiN ZhB
 have hmod:((n:Int)).tmod 8=((n%8:Nat):Int):=by rw [Zaz (by omega)];omega
 have hdiv:((n:Int)).tdiv 8=((n/8:Nat):Int):=by rw [Zaw (by omega)];omega
 simp only [hmod,hdiv]
 by_cases hlt:n<8*s.length
 ·((try simp (disch:=omega) only [Zan,Zal,Zak,Zad,Zas,ZaN,Zaf,Zaz,Zaw,Zae,Option.map_some,cond_true,cond_false,Int.sub_zero,Int.toNat_natCast]);(try simp only [Zbj,Zdo,Zdp,Zat,Zbs,if_true,if_false]))
  rw [if_neg (by omega),if_neg (by omega),Zg9 _ (by omega)]
  have hc:(s.getD (n/8) 0).toNat<256:=(s.getD (n/8) 0).toNat_lt
  have hp:=Nat.two_pow_pos (n%8)
  rw [Zaf (by omega) (by omega),ZeR _ _ (by omega),Zj8 _ (Nat.lt_of_le_of_lt (Nat.div_le_self _ _) (by omega))]
  simp only [Zae]
  rw [Zab _ (by
   simp only [bne_iff_ne,ne_eq];intro h0;have h0:2^(n%8)=0:=by exact_mod_cast h0
   rw [h0] at hp;exact absurd hp (by omega))]
  have hle:(s.getD (n/8) 0).toNat/2^(n%8)≤(s.getD (n/8) 0).toNat:=Nat.div_le_self _ _
  rw [Zaw (Int.natCast_nonneg _),←Int.natCast_ediv]
  generalize (s.getD (n/8) 0).toNat/2^(n%8)=q at *
  ((try simp (disch:=omega) only [Zan,Zal,Zak,Zad,Zas,ZaN,Zaf,Zaz,Zaw,Zae,Option.map_some,cond_true,cond_false,Int.sub_zero,Int.toNat_natCast]);(try simp only [Zbj,Zdo,Zdp,Zat,Zbs,if_true,if_false]))
  rfl
 ·((try simp (disch:=omega) only [Zan,Zal,Zak,Zad,Zas,ZaN,Zaf,Zaz,Zaw,Zae,Option.map_some,cond_true,cond_false,Int.sub_zero,Int.toNat_natCast]);(try simp only [Zbj,Zdo,Zdp,Zat,Zbs,if_true,if_false]))
  rw [if_pos (by omega),if_pos (by omega)]
theorem Zqx {s:Str} {at_:Int} {bad:Bool} {m:Option (List Bool)} (hs:s.length≤1000000000) (h:Rs s at_ bad m):Ret (ZiN s at_ bad) (Zvm s m):=by
 obtain ⟨n,rfl,hn⟩:=h.at
 rw [ZtK s n bad hs hn];exact ZiT hs h
def Zby (k:Nat):Option (List Bool)→Option (List Bool)
 | some l=>if k≤l.length then some (l.drop k) else none
 | none=>none
def Zoe (s:Str) (k:Nat) (m:Option (List Bool)) (r:Int×Str×Int×Bool):Prop:=
 r.2.1=s∧(∃v:Nat,r.1=(v:Int)∧v<2^k∧∀l,m=some l→k≤l.length→v=Zb6 (l.take k))∧Rs s r.2.2.1 r.2.2.2 (Zby k m)
theorem Zo4 (m:Option (List Bool)):Zby 0 m=m:=by cases m<;>simp [Zby]
theorem Zo5 (k:Nat) (m:Option (List Bool)):Zby (k+1) m=Zl8 (Zby k m):=by
 cases m with
 | none=>rfl
 | some l=>
  simp only [Zby]
  by_cases h:k+1≤l.length
  ·rw [if_pos h,if_pos (by omega),List.drop_eq_getElem_cons (by omega:k<l.length)];rfl
  ·rw [if_neg h]
   by_cases h2:k≤l.length
   ·rw [if_pos h2,List.drop_eq_nil_of_le (by omega)];rfl
   ·rw [if_neg h2];rfl
theorem Zhh (l:List Bool) (k:Nat) (h:k<l.length):Zb6 (l.take (k+1))=Zb6 (l.take k)+(l[k]).toNat*2^k:=by
 rw [List.take_succ_eq_append_getElem h,Zd8,List.length_take,Nat.min_eq_left (by omega)]
 simp only [Zb6,Nat.mul_zero,Nat.add_zero]
 rw [Nat.mul_comm (2^_)]
theorem ZtP {s:Str} (hs:s.length≤1000000000) (k:Nat) (hk:k≤60) (m0:Option (List Bool)):∀(j i v:Nat) (at_:Int) (bad:Bool),i+j=k→v<2^i→(∀l,m0=some l→i≤l.length→v=Zb6 (l.take i))→Rs s at_ bad (Zby i m0)→
  Ret (Zeq.l0 (j+1) ((v:Int),(k:Int),(i:Int),s,at_,bad)) (Zoe s k m0)
 | 0,i,v,at_,bad,hi,hv,hl,h=>by
  rw [Zeq.l0.succ];simp only [Zeq.l0.step]
  rw [Za0 (by omega)]
  have:i=k:=by omega
  subst this
  exact .pure ⟨rfl,⟨v,rfl,hv,hl⟩,h⟩
 | j+1,i,v,at_,bad,hi,hv,hl,h=>by
  rw [Zeq.l0.succ];simp only [Zeq.l0.step]
  rw [ZaZ (by omega),cond_true]
  refine .bind (ZiT hs h) ?_
  rintro ⟨r,s',at',bad'⟩ ⟨rfl,b,rfl,h2,h3⟩
  dsimp only at h2 h3 ⊢
  have hb:b.toNat≤1:=by cases b<;>decide
  have hp:2^i≤2^60:=Nat.pow_le_pow_right (by omega) (by omega)
  have hle:b.toNat*2^i≤1*2^i:=Nat.mul_le_mul_right _ hb
  ((try simp (disch:=omega) only [Zan,Zal,Zak,Zad,Zas,ZaN,Zaf,Zaz,Zaw,Zae,Option.map_some,cond_true,cond_false,Int.sub_zero,Int.toNat_natCast]);(try simp only [Zbj,Zdo,Zdp,Zat,Zbs,if_true,if_false]))
  rw [Zel _ _ (by omega) (by omega),Zi6 _ _ (by omega) (by omega),ZkL v _ i hv,show ((i:Int)+1)=((i+1:Nat):Int) by omega]
  refine ZtP hs k hk m0 j (i+1) _ at' bad' (by omega) (by rw [Nat.pow_succ];omega) (fun l hm hil=>?_) (by rw [Zo5];exact h2)
  subst hm
  have hlen:i<l.length:=by omega
  rw [Zhh l i hlen,←hl l rfl (by omega)]
  have:=h3 l[i] (l.drop (i+1)) (by simp only [Zby];rw [if_pos (by omega),List.drop_eq_getElem_cons hlen])
  rw [this]
theorem Zec {s:Str} {at_:Int} {bad:Bool} {m:Option (List Bool)} (hs:s.length≤1000000000) (k:Nat) (hk:k≤60) (h:Rs s at_ bad m):Ret (Zeq (k:Int) s at_ bad) (Zoe s k m):=by
 unfold Zeq
 rw [ZaJ]
 refine .bind (ZtP hs k hk m k 0 0 at_ bad (by omega) (by simp) (fun l _ _=>by simp [Zb6]) (by rw [Zo4];exact h)) ?_
 rintro ⟨r,s',at',bad'⟩ hr
 exact .pure hr
theorem ZtJ {s:Str} (hs:s.length≤1000000000) (k:Nat) (hk:k≤60) (m0:Option (List Bool)):∀(j i v:Nat) (at_:Int) (bad:Bool),i+j=k→v<2^i→(∀l,m0=some l→i≤l.length→v=Zb6 (l.take i))→Rs s at_ bad (Zby i m0)→
  Ret (ZeA.l0 (j+1) ((k:Int),(v:Int),(i:Int),s,at_,bad)) (Zoe s k m0)
 | 0,i,v,at_,bad,hi,hv,hl,h=>by
  rw [ZeA.l0.succ];simp only [ZeA.l0.step]
  rw [Za0 (by omega)]
  have:i=k:=by omega
  subst this
  exact .pure ⟨rfl,⟨v,rfl,hv,hl⟩,h⟩
 | j+1,i,v,at_,bad,hi,hv,hl,h=>by
  rw [ZeA.l0.succ];simp only [ZeA.l0.step]
  rw [ZaZ (by omega),cond_true]
  refine .bind (Zqx hs h) ?_
  rintro ⟨r,s',at',bad'⟩ ⟨rfl,b,rfl,h2,h3⟩
  dsimp only at h2 h3 ⊢
  have hb:b.toNat≤1:=by cases b<;>decide
  have hp:2^i≤2^60:=Nat.pow_le_pow_right (by omega) (by omega)
  have hle:b.toNat*2^i≤1*2^i:=Nat.mul_le_mul_right _ hb
  rw [Zg9 i (by omega)]
  simp only [Zae]
  rw [←Int.natCast_mul]
  ((try simp (disch:=omega) only [Zan,Zal,Zak,Zad,Zas,ZaN,Zaf,Zaz,Zaw,Zae,Option.map_some,cond_true,cond_false,Int.sub_zero,Int.toNat_natCast]);(try simp only [Zbj,Zdo,Zdp,Zat,Zbs,if_true,if_false]))
  rw [←Int.natCast_add,show ((i:Int)+1)=((i+1:Nat):Int) by omega]
  refine ZtJ hs k hk m0 j (i+1) _ at' bad' (by omega) (by rw [Nat.pow_succ];omega) (fun l hm hil=>?_) (by rw [Zo5];exact h2)
  subst hm
  have hlen:i<l.length:=by omega
  rw [Zhh l i hlen,←hl l rfl (by omega)]
  have:=h3 l[i] (l.drop (i+1)) (by simp only [Zby];rw [if_pos (by omega),List.drop_eq_getElem_cons hlen])
  rw [this]
theorem ZdN {s:Str} {at_:Int} {bad:Bool} {m:Option (List Bool)} (hs:s.length≤1000000000) (k:Nat) (hk:k≤60) (h:Rs s at_ bad m):Ret (ZeA (k:Int) s at_ bad) (Zoe s k m):=by
 unfold ZeA
 rw [ZaJ]
 refine .bind (ZtJ hs k hk m k 0 0 at_ bad (by omega) (by simp) (fun l _ _=>by simp [Zb6]) (by rw [Zo4];exact h)) ?_
 rintro ⟨r,s',at',bad'⟩ hr
 exact .pure hr
def Zds:Option (List Bool)→Option (List Bool)
 | some l=>if Zb6 (l.take (l.length%8))=0 then some (l.drop (l.length%8)) else none
 | none=>none
theorem Zg8 (b:Bool) (l:List Bool) (h:(l.length+1)%8≠0):Zds (some (b::l))=if b then none else Zds (some l):=by
 have e:(l.length+1)%8=l.length%8+1:=by omega
 simp only [Zds,List.length_cons,e,List.take_succ_cons,List.drop_succ_cons,Zb6]
 cases b
 ·by_cases h0:Zb6 (List.take (l.length%8) l)=0
  ·simp [h0]
  ·simp [h0];omega
 ·simp
theorem Zrs {s:Str} (hs:s.length≤1000000000):∀(j:Nat) (at_:Int) (bad:Bool) (m:Option (List Bool)),Rs s at_ bad m→(8-at_.toNat%8)%8<j→
  Ret (ZdJ.l0 j (s,at_,bad)) fun r=>r.1=s∧Rs s r.2.1 r.2.2 (Zds m)
 | 0,_,_,_,_,h=>absurd h (by omega)
 | j+1,at_,bad,m,h,hj=>by
  obtain ⟨n,rfl,hn⟩:=h.at
  rw [ZdJ.l0.succ];simp only [ZdJ.l0.step]
  have hmod:((n:Int)).tmod 8=((n%8:Nat):Int):=by rw [Zaz (by omega)];omega
  rw [hmod]
  ((try simp (disch:=omega) only [Zan,Zal,Zak,Zad,Zas,ZaN,Zaf,Zaz,Zaw,Zae,Option.map_some,cond_true,cond_false,Int.sub_zero,Int.toNat_natCast]);(try simp only [Zbj,Zdo,Zdp,Zat,Zbs,if_true,if_false]))
  refine .ite (fun h0=>.pure ⟨rfl,?_⟩) fun h0=>?_
  ·cases m with
   | none=>exact h
   | some l=>
    have hl:=h.len
    have:l.length%8=0:=by omega
    simp only [Zds,this,List.take_zero,List.drop_zero,Zb6,if_true];exact h
  ·have hlt:n<8*s.length:=by omega
   have hst:=ZiT hs h
   rw [ZqA s n bad hs hlt] at hst ⊢
   obtain ⟨r0,hr0,hst⟩:=hst
   cases hr0
   obtain ⟨_,b,hb,h2,h3⟩:=hst
   dsimp only at hb h2 h3
   have hbb:(s.getD (n/8) 0).toNat.testBit (n%8)=b:=by
    generalize (s.getD (n/8) 0).toNat.testBit (n%8)=c at hb
    revert hb;cases b<;>cases c<;>simp
   rw [hbb]
   simp only [Zae]
   have fin:∀bad2,Rs s ((n+1:Nat):Int) bad2 (match m with
     | some (c::l)=>if b then none else some l
     | _=>none)→Ret (ZdJ.l0 j (s,((n+1:Nat):Int),bad2)) fun r=>r.1=s∧Rs s r.2.1 r.2.2 (Zds m):=fun bad2 h4=>by
    refine (Zrs hs j _ bad2 _ h4 (by omega)).mono fun r ⟨e1,e2⟩=>⟨e1,?_⟩
    cases m with
    | none=>exact e2
    | some l=>
     cases l with
     | nil=>have:=h.len;simp at this;omega
     | cons c l=>
      have hl:=h.len
      rw [Zg8 c l (by simp at hl;omega),←h3 c l rfl]
      cases b<;>exact e2
   ((try simp (disch:=omega) only [Zan,Zal,Zak,Zad,Zas,ZaN,Zaf,Zaz,Zaw,Zae,Option.map_some,cond_true,cond_false,Int.sub_zero,Int.toNat_natCast]);(try simp only [Zbj,Zdo,Zdp,Zat,Zbs,if_true,if_false]))
   refine .ite (fun hb0=>fin bad ?_) fun hb0=>fin true ?_
   ·have:b=false:=by cases b<;>simp at hb0 ⊢
    subst this
    cases m with
    | none=>exact h2
    | some l=>cases l<;>exact h2
   ·have:b=true:=by cases b<;>simp at hb0 ⊢
    subst this
    cases m with
    | none=>exact h2.fail
    | some l=>cases l<;>exact h2.fail
theorem Zrr {s:Str} {at_:Int} {bad:Bool} {m:Option (List Bool)} (hs:s.length≤1000000000) (h:Rs s at_ bad m):Ret (ZdJ s at_ bad) fun r=>r.1=s∧Rs s r.2.1 r.2.2 (Zds m):=by
 unfold ZdJ
 refine .bind (Zrs hs 9 at_ bad m h (by omega)) ?_
 rintro ⟨s',a,b⟩ hr
 exact .pure hr
theorem ZoD {s:Str} (hs:s.length≤1000000000):∀(j v:Nat) (at_:Int) (bad:Bool) (m:Option (List Bool)),Rs s at_ bad m→(8-at_.toNat%8)%8<j→v≤100-8*((8-at_.toNat%8)%8)→
  Ret (Zct.l0 j ((v:Int),s,at_,bad)) fun r=>r.2.1=s∧∃q:Nat,r.1=(q:Int)∧v≤q∧((v=q→Rs s r.2.2.1 r.2.2.2 (Zds m))∧(v≠q→Zds m=none∧∃m',Rs s r.2.2.1 r.2.2.2 m'))
 | 0,_,_,_,_,_,h,_=>absurd h (by omega)
 | j+1,v,at_,bad,m,h,hj,hv=>by
  obtain ⟨n,rfl,hn⟩:=h.at
  rw [Zct.l0.succ];simp only [Zct.l0.step]
  have hmod:((n:Int)).tmod 8=((n%8:Nat):Int):=by rw [Zaz (by omega)];omega
  rw [hmod]
  ((try simp (disch:=omega) only [Zan,Zal,Zak,Zad,Zas,ZaN,Zaf,Zaz,Zaw,Zae,Option.map_some,cond_true,cond_false,Int.sub_zero,Int.toNat_natCast]);(try simp only [Zbj,Zdo,Zdp,Zat,Zbs,if_true,if_false]))
  refine .ite (fun h0=>.pure ⟨rfl,v,rfl,Nat.le_refl _,fun _=>?_,fun h=>absurd rfl h⟩) fun h0=>?_
  ·cases m with
   | none=>exact h
   | some l=>
    have hl:=h.len
    have:l.length%8=0:=by omega
    simp only [Zds,this,List.take_zero,List.drop_zero,Zb6,if_true];exact h
  ·have hlt:n<8*s.length:=by omega
   have hst:=ZiT hs h
   rw [ZtK s n bad hs hn]
   rw [ZqA s n bad hs hlt] at hst ⊢
   obtain ⟨r0,hr0,hst⟩:=hst
   cases hr0
   obtain ⟨_,b,hb,h2,h3⟩:=hst
   dsimp only at hb h2 h3
   have hbb:(s.getD (n/8) 0).toNat.testBit (n%8)=b:=by
    generalize (s.getD (n/8) 0).toNat.testBit (n%8)=c at hb
    revert hb;cases b<;>cases c<;>simp
   rw [hbb]
   simp only [Zae]
   have hb1:b.toNat≤1:=by cases b<;>decide
   ((try simp (disch:=omega) only [Zan,Zal,Zak,Zad,Zas,ZaN,Zaf,Zaz,Zaw,Zae,Option.map_some,cond_true,cond_false,Int.sub_zero,Int.toNat_natCast]);(try simp only [Zbj,Zdo,Zdp,Zat,Zbs,if_true,if_false]))
   rw [←Int.natCast_add]
   refine (ZoD hs j (v+b.toNat) _ bad _ h2 (by omega) (by omega)).mono fun r ⟨e1,q,e2,e3,e4,e5⟩=>⟨e1,q,e2,by omega,fun hq=>?_,fun hq=>?_⟩
   ·have:b=false:=by cases b<;>simp at e3 ⊢<;>omega
    subst this
    have e4:=e4 (by simp;omega)
    cases m with
    | none=>exact e4
    | some l=>
     cases l with
     | nil=>have:=h.len;simp at this;omega
     | cons c l=>
      have hl:=h.len
      rw [Zg8 c l (by simp at hl;omega),←h3 c l rfl]
      exact e4
   ·by_cases hq2:v+b.toNat=q
    ·refine ⟨?_,_,e4 hq2⟩
     have:b=true:=by cases b<;>simp at hq2 ⊢;omega
     subst this
     cases m with
     | none=>rfl
     | some l=>
      cases l with
      | nil=>have:=h.len;simp at this;omega
      | cons c l=>
       have hl:=h.len
       rw [Zg8 c l (by simp at hl;omega),←h3 c l rfl];rfl
    ·obtain ⟨f1,f2⟩:=e5 hq2
     refine ⟨?_,f2⟩
     cases m with
     | none=>rfl
     | some l=>
      cases l with
      | nil=>have:=h.len;simp at this;omega
      | cons c l=>
       have hl:=h.len
       rw [Zg8 c l (by simp at hl;omega)]
       cases c
       ·exact f1
       ·rfl
theorem Zkz {s:Str} {at_:Int} {bad:Bool} {m:Option (List Bool)} (hs:s.length≤1000000000) (h:Rs s at_ bad m):Ret (Zct s at_ bad) fun r=>r.2.1=s∧(r.1=true→Rs s r.2.2.1 r.2.2.2 (Zds m))∧(r.1=false→Zds m=none∧∃m',Rs s r.2.2.1 r.2.2.2 m'):=by
 unfold Zct
 refine .bind (ZoD hs 9 0 at_ bad m h (by omega) (by omega)) ?_
 rintro ⟨v,s',a,b⟩ ⟨e1,q,e2,e3,e4,e5⟩
 dsimp only at e1 e2 e3 e4 e5 ⊢
 subst e2
 refine .pure ⟨e1,fun hq=>e4 ?_,fun hq=>e5 ?_⟩
 ·dsimp only at hq;rw [beq_iff_eq] at hq;omega
 ·dsimp only at hq;rw [beq_eq_false_iff_ne] at hq;omega
end Ev
end
section
namespace Ev
open Go
theorem Zg3 (n:Int):IntKind.wrap .u32 n=n%4294967296:=by simp [IntKind.wrap,IntKind.bits,IntKind.signed]
theorem ZeQ (x y:Nat) (hx:x<4294967296) (hy:y<4294967296):Zj7 .u32 (x:Int) (y:Int)=((x^^^y:Nat):Int):=by
 have hz:x^^^y<2^32:=Nat.xor_lt_two_pow (by omega) (by omega)
 unfold Zj7
 have e:(BitVec.ofInt IntKind.u32.bits (x:Int)^^^BitVec.ofInt IntKind.u32.bits (y:Int)).toNat=x^^^y:=by
  simp only [BitVec.ofInt_natCast,BitVec.toNat_xor,BitVec.toNat_ofNat,show IntKind.u32.bits=32 from rfl]
  rw [Nat.mod_eq_of_lt (by omega),Nat.mod_eq_of_lt (by omega)]
 rw [e,Zg3];omega
theorem ZpA (x:Nat) (hx:x<4294967296):ZjK .u32 (x:Int) 1=((x%2:Nat):Int):=by
 have hz:x &&& 1<2^32:=Nat.and_lt_two_pow _ (by omega)
 unfold ZjK
 have e:(BitVec.ofInt IntKind.u32.bits (x:Int) &&& BitVec.ofInt IntKind.u32.bits ((1:Nat):Int)).toNat=x &&& 1:=by
  simp only [BitVec.ofInt_natCast,BitVec.toNat_and,BitVec.toNat_ofNat,show IntKind.u32.bits=32 from rfl]
  rw [Nat.mod_eq_of_lt (by omega),Nat.mod_eq_of_lt (by omega)]
 rw [show (1:Int)=((1:Nat):Int) from rfl,e,Zg3,Nat.and_one_is_mod];omega
theorem Zpz (x:Nat):ZlO .u32 (x:Int) 1=((x/2:Nat):Int):=by
 unfold ZlO
 rw [show min (1:Int).toNat IntKind.u32.bits=1 from rfl,show ((2:Int)^1)=2 by rfl,Int.fdiv_eq_ediv_of_nonneg _ (by omega)]
 omega
def ZgW (c:Nat):Nat:=if c%2=1 then c/2^^^3988292384 else c/2
def Zhc:Nat→Nat→Nat
 | 0,c=>c
 | n+1,c=>Zhc n (ZgW c)
def ZfF (c:Nat) (b:UInt8):Nat:=Zhc 8 (c^^^b.toNat)
def Zoi (text:Str):Nat:=text.foldl ZfF 4294967295^^^4294967295
theorem Zjj {c:Nat} (h:c<4294967296):ZgW c<4294967296:=by
 unfold ZgW
 split
 ·exact Nat.xor_lt_two_pow (n:=32) (by omega) (by omega)
 ·omega
theorem Zly:∀{n c:Nat},c<4294967296→Zhc n c<4294967296
 | 0,c,h=>h
 | n+1,c,h=>Zly (n:=n) (Zjj h)
theorem Zjk {c:Nat} {b:UInt8} (h:c<4294967296):ZfF c b<4294967296:=
 Zly (Nat.xor_lt_two_pow (n:=32) (by omega) (by have:=b.toNat_lt;omega))
theorem Zhd:∀(text:Str) {c:Nat},c<4294967296→text.foldl ZfF c<4294967296
 | [],_,h=>h
 | b::t,_,h=>Zhd t (Zjk h)
theorem ZhN (text:Str):Zoi text<4294967296:=Nat.xor_lt_two_pow (n:=32) (Zhd text (by omega)) (by omega)
theorem ZjO (text:Str) (k:Int):∀(j i c:Nat),i+j=8→c<4294967296→ZaC.l0 (j+1) ((c:Int),text,k,(i:Int))=some (((Zhc j c:Nat):Int),text,k)
 | 0,i,c,hi,hc=>by
  rw [ZaC.l0.succ];simp only [ZaC.l0.step]
  ((try simp (disch:=omega) only [Zan,Zal,Zak,Zad,Zas,ZaN,Zaf,Zaz,Zaw,Zae,Option.map_some,cond_true,cond_false,Int.sub_zero,Int.toNat_natCast]);(try simp only [Zbj,Zdo,Zdp,Zat,Zbs,if_true,if_false]))
  rw [if_neg (by omega)];rfl
 | j+1,i,c,hi,hc=>by
  have ih:=ZjO text k j (i+1) (ZgW c) (by omega) (Zjj hc)
  rw [ZaC.l0.succ];simp only [ZaC.l0.step]
  ((try simp (disch:=omega) only [Zan,Zal,Zak,Zad,Zas,ZaN,Zaf,Zaz,Zaw,Zae,Option.map_some,cond_true,cond_false,Int.sub_zero,Int.toNat_natCast]);(try simp only [Zbj,Zdo,Zdp,Zat,Zbs,if_true,if_false]))
  rw [if_pos (by omega),Zpz,ZpA c hc]
  have e:Zj7 .u32 ((c/2:Nat):Int) (IntKind.wrap .u32 (3988292384*((c%2:Nat):Int)))=((ZgW c:Nat):Int):=by
   rw [Zg3]
   unfold ZgW
   split
   ·rename_i h1
    rw [h1,show ((3988292384:Int)*((1:Nat):Int)%4294967296)=((3988292384:Nat):Int) by rfl,ZeQ _ _ (by omega) (by omega)]
   ·rename_i h1
    have:c%2=0:=by omega
    rw [this,show ((3988292384:Int)*((0:Nat):Int)%4294967296)=((0:Nat):Int) by rfl,ZeQ _ _ (by omega) (by omega),Nat.xor_zero]
  rw [e,show ((i:Int)+1)=((i+1:Nat):Int) by omega,ih];rfl
theorem ZjN (text:Str) (hs:text.length≤1000000000):∀(j i c:Nat),i+j=text.length→c<4294967296→ZaC.l1 (j+1) ((c:Int),text,(i:Int))=some (((text.drop i).foldl ZfF c:Nat):Int)
 | 0,i,c,hi,hc=>by
  rw [ZaC.l1.succ];simp only [ZaC.l1.step]
  ((try simp (disch:=omega) only [Zan,Zal,Zak,Zad,Zas,ZaN,Zaf,Zaz,Zaw,Zae,Option.map_some,cond_true,cond_false,Int.sub_zero,Int.toNat_natCast]);(try simp only [Zbj,Zdo,Zdp,Zat,Zbs,if_true,if_false]))
  rw [if_neg (by omega),List.drop_eq_nil_of_le (by omega)];rfl
 | j+1,i,c,hi,hc=>by
  have hlt:i<text.length:=by omega
  rw [ZaC.l1.succ];simp only [ZaC.l1.step]
  ((try simp (disch:=omega) only [Zan,Zal,Zak,Zad,Zas,ZaN,Zaf,Zaz,Zaw,Zae,Option.map_some,cond_true,cond_false,Int.sub_zero,Int.toNat_natCast]);(try simp only [Zbj,Zdo,Zdp,Zat,Zbs,if_true,if_false]))
  rw [if_pos (by omega)]
  have hb:(text.getD i 0).toNat<256:=(text.getD i 0).toNat_lt
  rw [Zg3,show (((text.getD i 0).toNat:Int)%4294967296)=(((text.getD i 0).toNat:Nat):Int) by omega,ZeQ _ _ hc (by omega)]
  have h0:=ZjO text (i:Int) 8 0 (c^^^(text.getD i 0).toNat) (by omega) (Nat.xor_lt_two_pow (n:=32) (by omega) (by omega))
  rw [show ((0:Nat):Int)=0 from rfl] at h0
  rw [show ((8:Int)).toNat+1=8+1 from rfl,h0]
  simp only [Zae]
  ((try simp (disch:=omega) only [Zan,Zal,Zak,Zad,Zas,ZaN,Zaf,Zaz,Zaw,Zae,Option.map_some,cond_true,cond_false,Int.sub_zero,Int.toNat_natCast]);(try simp only [Zbj,Zdo,Zdp,Zat,Zbs,if_true,if_false]))
  rw [show ((i:Int)+1)=((i+1:Nat):Int) by omega]
  have:=ZjN text hs j (i+1) (ZfF c (text.getD i 0)) (by omega) (Zjk hc)
  unfold ZfF at this
  rw [this,List.drop_eq_getElem_cons hlt,Zam hlt];rfl
theorem crc_eq (text:Str) (hs:text.length≤1000000000):crc text=some ((Zoi text:Nat):Int):=by
 unfold crc ZaC
 rw [ZaJ]
 have e:Zj7 .u32 (IntKind.max .u32) 0=((4294967295:Nat):Int):=ZeQ 4294967295 0 (by omega) (by omega)
 have h:=ZjN text hs text.length 0 4294967295 (by omega) (by omega)
 rw [show ((0:Nat):Int)=0 from rfl] at h
 rw [e,h]
 simp only [Zae,List.drop_zero]
 have hl:=Zhd text (c:=4294967295) (by omega)
 have e2:Zj7 .u32 (IntKind.max .u32) ((text.foldl ZfF 4294967295:Nat):Int)=((Zoi text:Nat):Int):=by
  rw [show IntKind.max .u32=((4294967295:Nat):Int) from rfl,ZeQ _ _ (by omega) hl,Nat.xor_comm];rfl
 rw [e2]
 have:=ZhN text
 ((try simp (disch:=omega) only [Zan,Zal,Zak,Zad,Zas,ZaN,Zaf,Zaz,Zaw,Zae,Option.map_some,cond_true,cond_false,Int.sub_zero,Int.toNat_natCast]);(try simp only [Zbj,Zdo,Zdp,Zat,Zbs,if_true,if_false]))
theorem Zps:∀(j i c:Nat),i+j=8→c<4294967296→ZcK.l0 (j+1) ((c:Int),(i:Int))=some ((Zhc j c:Nat):Int)
 | 0,i,c,hi,hc=>by
  rw [ZcK.l0.succ];simp only [ZcK.l0.step]
  ((try simp (disch:=omega) only [Zan,Zal,Zak,Zad,Zas,ZaN,Zaf,Zaz,Zaw,Zae,Option.map_some,cond_true,cond_false,Int.sub_zero,Int.toNat_natCast]);(try simp only [Zbj,Zdo,Zdp,Zat,Zbs,if_true,if_false]))
  rw [if_neg (by omega)];rfl
 | j+1,i,c,hi,hc=>by
  have ih:=Zps j (i+1) (ZgW c) (by omega) (Zjj hc)
  rw [ZcK.l0.succ];simp only [ZcK.l0.step]
  ((try simp (disch:=omega) only [Zan,Zal,Zak,Zad,Zas,ZaN,Zaf,Zaz,Zaw,Zae,Option.map_some,cond_true,cond_false,Int.sub_zero,Int.toNat_natCast]);(try simp only [Zbj,Zdo,Zdp,Zat,Zbs,if_true,if_false]))
  rw [if_pos (by omega),show ((i:Int)+1)=((i+1:Nat):Int) by omega,Zg3,show ((c:Int)/2%4294967296)=((c/2:Nat):Int) by omega]
  unfold Zhc
  rw [←ih]
  unfold ZgW
  by_cases h:c%2=1
  ·have:=ZeQ (c/2) 3988292384 (by omega) (by omega)
   rw [show ((3988292384:Nat):Int)=3988292384 from rfl] at this
   rw [if_pos (by omega),this,if_pos h]
  ·rw [if_neg (by omega),if_neg h]
theorem Zuv (c:Nat) (b:UInt8) (hc:c<4294967296):ZcK (c:Int) ((b.toNat:Nat):Int)=some ((ZfF c b:Nat):Int):=by
 unfold ZcK
 have hb:b.toNat<256:=b.toNat_lt
 have h0:=Zps 8 0 (c^^^b.toNat) (by omega) (Nat.xor_lt_two_pow (n:=32) (by omega) (by omega))
 rw [Zg3,show (((b.toNat:Nat):Int)%4294967296)=((b.toNat:Nat):Int) by omega,ZeQ _ _ hc (by omega)]
 rw [show ((0:Nat):Int)=0 from rfl] at h0
 rw [show ((8:Int)-0).toNat+1=8+1 from rfl,h0];rfl
theorem Zpt (text:Str) (hs:text.length≤1000000000):∀(j i c:Nat),i+j=text.length→c<4294967296→ZcP.l0 (j+1) (text,(c:Int),(i:Int))=some (((text.drop i).foldl ZfF c:Nat):Int)
 | 0,i,c,hi,hc=>by
  rw [ZcP.l0.succ];simp only [ZcP.l0.step]
  ((try simp (disch:=omega) only [Zan,Zal,Zak,Zad,Zas,ZaN,Zaf,Zaz,Zaw,Zae,Option.map_some,cond_true,cond_false,Int.sub_zero,Int.toNat_natCast]);(try simp only [Zbj,Zdo,Zdp,Zat,Zbs,if_true,if_false]))
  rw [if_neg (by omega),List.drop_eq_nil_of_le (by omega)];rfl
 | j+1,i,c,hi,hc=>by
  have hlt:i<text.length:=by omega
  rw [ZcP.l0.succ];simp only [ZcP.l0.step]
  ((try simp (disch:=omega) only [Zan,Zal,Zak,Zad,Zas,ZaN,Zaf,Zaz,Zaw,Zae,Option.map_some,cond_true,cond_false,Int.sub_zero,Int.toNat_natCast]);(try simp only [Zbj,Zdo,Zdp,Zat,Zbs,if_true,if_false]))
  rw [if_pos (by omega),Zuv c _ hc]
  ((try simp (disch:=omega) only [Zan,Zal,Zak,Zad,Zas,ZaN,Zaf,Zaz,Zaw,Zae,Option.map_some,cond_true,cond_false,Int.sub_zero,Int.toNat_natCast]);(try simp only [Zbj,Zdo,Zdp,Zat,Zbs,if_true,if_false]))
  rw [show ((i:Int)+1)=((i+1:Nat):Int) by omega,Zpt text hs j (i+1) _ (by omega) (Zjk hc),List.drop_eq_getElem_cons hlt,Zam hlt];rfl
theorem Zmg (text:Str) (hs:text.length≤1000000000):Zc3 text=some ((Zoi text:Nat):Int):=by
 unfold Zc3 ZcP
 rw [ZaJ]
 have e:Zj7 .u32 0 4294967295=((4294967295:Nat):Int):=ZeQ 0 4294967295 (by omega) (by omega)
 have h:=Zpt text hs text.length 0 4294967295 (by omega) (by omega)
 rw [show ((0:Nat):Int)=0 from rfl] at h
 rw [e,h]
 simp only [Zae,List.drop_zero]
 have hl:=Zhd text (c:=4294967295) (by omega)
 have e2:Zj7 .u32 ((text.foldl ZfF 4294967295:Nat):Int) 4294967295=((Zoi text:Nat):Int):=ZeQ _ 4294967295 hl (by omega)
 rw [e2]
 have:=ZhN text
 ((try simp (disch:=omega) only [Zan,Zal,Zak,Zad,Zas,ZaN,Zaf,Zaz,Zaw,Zae,Option.map_some,cond_true,cond_false,Int.sub_zero,Int.toNat_natCast]);(try simp only [Zbj,Zdo,Zdp,Zat,Zbs,if_true,if_false]))
end Ev
end
section
namespace Ev
open Go
def zs (ns:List Nat):List Int:=ns.map fun (n:Nat)=>(n:Int)
theorem Zag (ns:List Nat):(zs ns).length=ns.length:=by simp [zs]
theorem ZaD (ns:List Nat) (i:Nat):(zs ns).getD i 0=((ns.getD i 0:Nat):Int):=by
 simp only [zs,List.getD_eq_getElem?_getD,List.getElem?_map]
 cases ns[i]?<;>rfl
theorem ZeW (a b:List Nat):zs (a++b)=zs a++zs b:=by simp [zs]
theorem ZeV (a:List Nat) (i n:Nat):(zs a).set i (n:Int)=zs (a.set i n):=by simp [zs,List.map_set]
theorem Zff (k n:Nat):List.replicate k (n:Int)=zs (List.replicate k n):=by simp [zs]
def Zbm:List Nat→Nat
 | []=>0
 | n::r=>(if 0<n then 2^(15-n) else 0)+Zbm r
def Zeo:List Nat→Nat
 | []=>0
 | n::r=>(if 0<n then 1 else 0)+Zeo r
theorem Zno:∀ns:List Nat,Zeo ns≤ns.length
 | []=>Nat.le_refl _
 | n::r=>by
  have:=Zno r
  simp only [Zeo,List.length_cons]
  split<;>omega
def ZcI (ns:List Nat):Bool:=decide (ns.length≤300)&&(ns.all (fun n=>decide (n≤15))&&(decide (Zbm ns=32768)||decide (Zeo ns=1∧Zbm ns=16384)))
def ZfD (a:Nat):List Nat→Nat
 | []=>a
 | n::r=>ZfD (if 0<n then n else a) r
theorem ZkT (ns:List Nat) (hn:ns.length≤300):∀(j i sum many last:Nat),i+j=ns.length→sum≤32768*i→many≤i→
  ZbQ.l0 (j+1) ((sum:Int),(many:Int),(last:Int),zs ns,(ns.length:Int),(i:Int)) =
   some (if (ns.drop i).all (fun n=>decide (n≤15)) then .inl (((sum+Zbm (ns.drop i):Nat):Int),((many+Zeo (ns.drop i):Nat):Int),((ZfD last (ns.drop i):Nat):Int)) else .inr false)
 | 0,i,sum,many,last,hi,h1,h2=>by
  rw [ZbQ.l0.succ];simp only [ZbQ.l0.step]
  rw [Za0 (by omega),List.drop_eq_nil_of_le (by omega)];rfl
 | j+1,i,sum,many,last,hi,h1,h2=>by
  have hlt:i<ns.length:=by omega
  have hd:ns.drop i=ns[i]::ns.drop (i+1):=List.drop_eq_getElem_cons hlt
  have hg:ns.getD i 0=ns[i]:=Zam hlt
  rw [ZbQ.l0.succ];simp only [ZbQ.l0.step]
  rw [ZaZ hlt,cond_true,Zab _ (by rw [Zag];exact Zav hlt),Int.toNat_natCast,ZaD,hg,Zdm,hd,List.all_cons]
  simp only [Zae]
  by_cases h15:ns[i]≤15
  ·have e1:decide ((0:Int)≤(ns[i]:Int)∧(ns[i]:Int)≤15)=true:=by simp;omega
   rw [e1,decide_eq_true h15,Bool.true_and]
   simp only [Bool.not_true,cond_false,Zbj]
   by_cases h0:0<ns[i]
   ·have hp:2^(15-ns[i])≤2^15:=Nat.pow_le_pow_right (by omega) (by omega)
    have hp0:0<2^(15-ns[i]):=Nat.two_pow_pos _
    have hsh:=Zel 1 (15-ns[i]) (by omega) (by omega)
    rw [Nat.one_mul,show ((1:Nat):Int)=1 from rfl,show ((15-ns[i]:Nat):Int)=15-(ns[i]:Int) by omega] at hsh
    rw [if_pos (by omega)]
    ((try simp (disch:=omega) only [Zan,Zal,Zak,Zad,Zas,ZaN,Zaf,Zaz,Zaw,Zae,Option.map_some,cond_true,cond_false,Int.sub_zero,Int.toNat_natCast,hsh]);(try simp only [Zbj,Zdo,Zdp,Zat,Zbs,if_true,if_false,hsh]))
    rw [show (sum:Int)+((2^(15-ns[i]):Nat):Int)=((sum+2^(15-ns[i]):Nat):Int) by omega,show (many:Int)+1=((many+1:Nat):Int) by omega,show (i:Int)+1=((i+1:Nat):Int) by omega,
     ZkT ns hn j (i+1) _ _ _ (by omega) (by omega) (by omega)]
    simp only [Zbm,Zeo,ZfD,if_pos h0,Nat.add_assoc]
   ·rw [if_neg (by omega)]
    ((try simp (disch:=omega) only [Zan,Zal,Zak,Zad,Zas,ZaN,Zaf,Zaz,Zaw,Zae,Option.map_some,cond_true,cond_false,Int.sub_zero,Int.toNat_natCast]);(try simp only [Zbj,Zdo,Zdp,Zat,Zbs,if_true,if_false]))
    rw [show (i:Int)+1=((i+1:Nat):Int) by omega,ZkT ns hn j (i+1) _ _ _ (by omega) (by omega) (by omega)]
    simp only [Zbm,Zeo,ZfD,if_neg h0,Nat.zero_add]
  ·have e1:decide ((0:Int)≤(ns[i]:Int)∧(ns[i]:Int)≤15)=false:=by simp;omega
   rw [e1,decide_eq_false h15]
   rfl
theorem Zpi:∀{ns:List Nat} {a:Nat},Zeo ns=1→Zbm ns=2^(15-ZfD a ns)∧0<ZfD a ns
 | [],a,h=>by simp [Zeo] at h
 | n::r,a,h=>by
  simp only [Zeo] at h
  have z:∀r (a:Nat),Zeo r=0→Zbm r=0∧ZfD a r=a:=fun r=>by
   induction r with
   | nil=>intro _ _;exact ⟨rfl,rfl⟩
   | cons m r ih=>
    intro a h
    simp only [Zeo] at h
    by_cases hm:0<m
    ·rw [if_pos hm] at h;omega
    ·rw [if_neg hm] at h;simp only [Zbm,ZfD];rw [if_neg hm,if_neg hm,(ih a (by omega)).1];exact ⟨rfl,(ih a (by omega)).2⟩
  by_cases hn:0<n
  ·rw [if_pos hn] at h
   have h0:Zeo r=0:=by omega
   simp only [Zbm,ZfD,if_pos hn,(z r n h0).1,(z r n h0).2]
   exact ⟨rfl,hn⟩
  ·rw [if_neg hn] at h
   have:=Zpi (ns:=r) (a:=a) (by omega)
   simp only [Zbm,ZfD,if_neg hn,Nat.zero_add]
   exact this
theorem ZkU (ns:List Nat):ZbQ (zs ns)=some (ZcI ns):=by
 unfold ZbQ ZcI
 rw [Zag]
 ((try simp (disch:=omega) only [Zan,Zal,Zak,Zad,Zas,ZaN,Zaf,Zaz,Zaw,Zae,Option.map_some,cond_true,cond_false,Int.sub_zero,Int.toNat_natCast]);(try simp only [Zbj,Zdo,Zdp,Zat,Zbs,if_true,if_false]))
 by_cases hn:ns.length≤300
 ·rw [if_neg (by omega)]
  have h:=ZkT ns hn ns.length 0 0 0 0 (by omega) (by omega) (by omega)
  rw [show ((0:Nat):Int)=0 from rfl,List.drop_zero] at h
  rw [h,decide_eq_true hn]
  cases hall:ns.all (fun n=>decide (n≤15)) with
  | false=>rfl
  | true=>
   simp only [if_true,Zae,Bool.true_and,Nat.zero_add,Zdo]
   by_cases hk:Zbm ns=32768
   ·rw [if_pos (by omega),decide_eq_true hk];rfl
   ·rw [if_neg (by omega),decide_eq_false hk]
    by_cases hu:Zeo ns=1
    ·rw [if_pos (by omega)]
     obtain ⟨e1,e2⟩:=Zpi (a:=0) hu
     simp only [Zae,Bool.false_or]
     have hl15:ZfD 0 ns≤15∨15<ZfD 0 ns:=by omega
     have:((((ZfD 0 ns:Nat):Int))==1)=decide (Zeo ns=1∧Zbm ns=16384):=by
      rw [Bool.eq_iff_iff,beq_iff_eq,decide_eq_true_eq]
      constructor
      ·intro h1
       have h1:ZfD 0 ns=1:=by omega
       exact ⟨hu,by rw [e1,h1]⟩
      ·rintro ⟨_,h2⟩
       rw [h2] at e1
       have hlt:ZfD 0 ns<15:=by
        rcases Nat.lt_or_ge (ZfD 0 ns) 15 with q | q
        ·exact q
        ·rw [show 15-ZfD 0 ns=0 by omega] at e1;simp at e1
       have:(2:Nat)^14=2^(15-ZfD 0 ns):=by rw [←e1]
       have hcases:ZfD 0 ns=1∨2≤ZfD 0 ns:=by omega
       rcases hcases with q | q
       ·omega
       ·have:2^(15-ZfD 0 ns)<2^14:=Nat.pow_lt_pow_right (by omega) (by omega)
        omega
     rw [this]
    ·rw [if_neg (by omega)]
     have:decide (Zeo ns=1∧Zbm ns=16384)=false:=by simp [hu]
     rw [this];rfl
 ·rw [if_pos (by omega),decide_eq_false hn];rfl
theorem ZaE {i:Nat}:(decide ((0:Int)≤(i:Int))&&true)=true:=by simp
theorem Zk1 (ns:List Nat) (hn:ns.length≤1000000):∀(j i many:Nat),i+j=ns.length→many≤i→Zcj.l0 (j+1) (zs ns,(many:Int),(i:Int))=some ((many+Zeo (ns.drop i):Nat):Int)
 | 0,i,many,hi,h2=>by
  rw [Zcj.l0.succ];simp only [Zcj.l0.step,Zag]
  rw [Za0 (by omega),List.drop_eq_nil_of_le (by omega)];rfl
 | j+1,i,many,hi,h2=>by
  have hlt:i<ns.length:=by omega
  have hd:ns.drop i=ns[i]::ns.drop (i+1):=List.drop_eq_getElem_cons hlt
  have hg:ns.getD i 0=ns[i]:=Zam hlt
  rw [Zcj.l0.succ];simp only [Zcj.l0.step,Zag]
  rw [ZaZ hlt,cond_true,Zab _ ZaE,Int.toNat_natCast,ZaD,hg,hd]
  ((try simp (disch:=omega) only [Zan,Zal,Zak,Zad,Zas,ZaN,Zaf,Zaz,Zaw,Zae,Option.map_some,cond_true,cond_false,Int.sub_zero,Int.toNat_natCast]);(try simp only [Zbj,Zdo,Zdp,Zat,Zbs,if_true,if_false]))
  by_cases h0:0<ns[i]
  ·rw [if_pos (by omega),show (many:Int)+1=((many+1:Nat):Int) by omega,show (i:Int)+1=((i+1:Nat):Int) by omega,Zk1 ns hn j (i+1) _ (by omega) (by omega)]
   simp only [Zeo,if_pos h0,Nat.add_assoc]
  ·rw [if_neg (by omega),show (i:Int)+1=((i+1:Nat):Int) by omega,Zk1 ns hn j (i+1) _ (by omega) (by omega)]
   simp only [Zeo,if_neg h0,Nat.zero_add]
theorem Zpn (ns:List Nat) (hn:ns.length≤1000000):Zcj (zs ns)=some ((Zeo ns:Nat):Int):=by
 unfold Zcj
 have h:=Zk1 ns hn ns.length 0 0 (by omega) (by omega)
 rw [show ((0:Nat):Int)=0 from rfl,List.drop_zero,Nat.zero_add] at h
 rw [Zag,ZaJ,h];rfl
theorem Zf7 (ns:List Nat) (hn:ns.length≤1000000):∀(j i sum:Nat),i+j=ns.length→sum≤32768*i→
  ZaK.l0 (j+1) (zs ns,(sum:Int),(i:Int))=some (if (ns.drop i).all (fun n=>decide (n≤15)) then .inl (zs ns,((sum+Zbm (ns.drop i):Nat):Int)) else .inr false)
 | 0,i,sum,hi,h1=>by
  rw [ZaK.l0.succ];simp only [ZaK.l0.step,Zag]
  rw [Za0 (by omega),List.drop_eq_nil_of_le (by omega)];rfl
 | j+1,i,sum,hi,h1=>by
  have hlt:i<ns.length:=by omega
  have hd:ns.drop i=ns[i]::ns.drop (i+1):=List.drop_eq_getElem_cons hlt
  have hg:ns.getD i 0=ns[i]:=Zam hlt
  rw [ZaK.l0.succ];simp only [ZaK.l0.step,Zag]
  rw [ZaZ hlt,cond_true,Zab _ ZaE,Int.toNat_natCast,ZaD,hg,Zj6,hd,List.all_cons]
  simp only [Zae]
  by_cases h15:ns[i]≤15
  ·have e1:decide ((0:Int)≤(ns[i]:Int)∧(ns[i]:Int)≤15)=true:=by simp;omega
   rw [e1,decide_eq_true h15,Bool.true_and]
   simp only [Bool.not_true,cond_false,Zbj]
   rw [Zab _ ZaE]
   by_cases h0:0<ns[i]
   ·have hp:2^(15-ns[i])≤2^15:=Nat.pow_le_pow_right (by omega) (by omega)
    have hp0:0<2^(15-ns[i]):=Nat.two_pow_pos _
    rw [if_pos (by omega),Zab _ ZaE,Zaf (by omega) (by omega),show 15-(ns[i]:Int)=((15-ns[i]:Nat):Int) by omega,Zg9 _ (by omega)]
    ((try simp (disch:=omega) only [Zan,Zal,Zak,Zad,Zas,ZaN,Zaf,Zaz,Zaw,Zae,Option.map_some,cond_true,cond_false,Int.sub_zero,Int.toNat_natCast]);(try simp only [Zbj,Zdo,Zdp,Zat,Zbs,if_true,if_false]))
    rw [show (sum:Int)+((2^(15-ns[i]):Nat):Int)=((sum+2^(15-ns[i]):Nat):Int) by omega,show (i:Int)+1=((i+1:Nat):Int) by omega,
     Zf7 ns hn j (i+1) _ (by omega) (by omega)]
    simp only [Zbm,if_pos h0,Nat.add_assoc]
   ·rw [if_neg (by omega)]
    ((try simp (disch:=omega) only [Zan,Zal,Zak,Zad,Zas,ZaN,Zaf,Zaz,Zaw,Zae,Option.map_some,cond_true,cond_false,Int.sub_zero,Int.toNat_natCast]);(try simp only [Zbj,Zdo,Zdp,Zat,Zbs,if_true,if_false]))
    rw [show (i:Int)+1=((i+1:Nat):Int) by omega,Zf7 ns hn j (i+1) _ (by omega) (by omega)]
    simp only [Zbm,if_neg h0,Nat.zero_add]
  ·have e1:decide ((0:Int)≤(ns[i]:Int)∧(ns[i]:Int)≤15)=false:=by simp;omega
   rw [e1,decide_eq_false h15]
   rfl
theorem ZeJ (ns:List Nat) (hn:ns.length≤1000000):ZaK (zs ns)=some (ZcI ns):=by
 unfold ZaK ZcI
 have h:=Zf7 ns hn ns.length 0 0 (by omega) (by omega)
 rw [show ((0:Nat):Int)=0 from rfl,List.drop_zero,Nat.zero_add] at h
 rw [Zag,ZaJ,h]
 cases hall:ns.all (fun n=>decide (n≤15)) with
 | false=>rw [Bool.false_and,Bool.and_false];rfl
 | true=>
  simp only [if_true,Zae,Bool.true_and,Zpn ns hn,Zag]
  have p14:=Zg9 14 (by omega)
  have p15:=Zg9 15 (by omega)
  rw [show ((14:Nat):Int)=14 from rfl] at p14
  rw [show ((15:Nat):Int)=15 from rfl] at p15
  rw [p14,p15]
  simp only [Zae]
  have one:((bif ((Zeo ns:Nat):Int)==1 then some (((Zbm ns:Nat):Int)==((2^14:Nat):Int)) else some false):Option Bool)=some (decide (Zeo ns=1∧Zbm ns=16384)):=by
   by_cases hu:Zeo ns=1
   ·have e:(((Zeo ns:Nat):Int)==1)=true:=by simp [hu]
    rw [e,cond_true]
    congr 1
    rw [Bool.eq_iff_iff,beq_iff_eq,decide_eq_true_eq]
    omega
   ·have e:(((Zeo ns:Nat):Int)==1)=false:=by simp;omega
    rw [e];simp [hu]
  rw [one]
  simp only [Zae]
  by_cases h3:ns.length≤300
  ·have e:decide ((ns.length:Int)≤300)=true:=by simp;omega
   rw [e,cond_true,decide_eq_true h3]
   by_cases hk:Zbm ns=32768
   ·have e:(((Zbm ns:Nat):Int)==((2^15:Nat):Int))=true:=by simp [hk]
    rw [e,decide_eq_true hk];rfl
   ·have e:(((Zbm ns:Nat):Int)==((2^15:Nat):Int))=false:=by rw [beq_eq_false_iff_ne];omega
    rw [e,decide_eq_false hk];rfl
  ·have e:decide ((ns.length:Int)≤300)=false:=by simp;omega
   rw [e,decide_eq_false h3];rfl
end Ev
end
section
namespace Ev
open Go
def base (ns:List Nat):Nat→Nat
 | 0=>0
 | 1=>0
 | l+2=>2*(base ns (l+1)+ns.count (l+1))
def ZcZ (ns:List Nat) (i:Nat):Nat:=base ns (ns.getD i 0)+(ns.take i).count (ns.getD i 0)
def ZeB (ns:List Nat) (l i:Nat):List Nat:=(List.range ns.length).map fun j=>if (1≤ns.getD j 0∧ns.getD j 0<l)∨(1≤l∧ns.getD j 0=l∧j<i) then ZcZ ns j else 0
def ZbL (ns:List Nat):List Nat:=ZeB ns 16 0
theorem Zsl (ns:List Nat):∀l,base ns (l+1)+2*ns.length≤ns.length*2^(l+1)
 | 0=>by simp [base];omega
 | l+1=>by
  have ih:=Zsl ns l
  have hc:=List.count_le_length (a:=l+1) (l:=ns)
  have h1:ns.length*2^(l+1+1)=2*(ns.length*2^(l+1)):=by rw [Nat.pow_succ,←Nat.mul_assoc,Nat.mul_comm]
  have e:base ns (l+1+1)=2*(base ns (l+1)+ns.count (l+1)):=rfl
  omega
theorem Zhe (ns:List Nat) (hn:ns.length≤1000) (l:Nat) (hl:l≤16):base ns l≤100000000:=by
 cases l with
 | zero=>simp [base]
 | succ l=>
  have h:=Zsl ns l
  have hp:2^(l+1)≤2^16:=Nat.pow_le_pow_right (by omega) hl
  have:ns.length*2^(l+1)≤1000*2^16:=Nat.mul_le_mul hn hp
  omega
theorem ZgG (ns:List Nat) (l i:Nat):(ZeB ns l i).length=ns.length:=by simp [ZeB]
theorem Zmf (ns:List Nat) (l:Nat) (hl:1≤l):ZeB ns l ns.length=ZeB ns (l+1) 0:=by
 unfold ZeB
 apply List.map_congr_left
 intro j hj
 have hj:=List.mem_range.1 hj
 by_cases h:(1≤ns.getD j 0∧ns.getD j 0<l)∨(1≤l∧ns.getD j 0=l∧j<ns.length)
 ·rw [if_pos h,if_pos (by omega)]
 ·rw [if_neg h,if_neg (by omega)]
theorem Zme (ns:List Nat):ZeB ns 1 0=List.replicate ns.length 0:=by
 apply List.ext_getElem
 ·simp [ZeB]
 ·intro i h1 h2
  simp only [ZeB,List.getElem_map,List.getElem_range,List.getElem_replicate]
  rw [if_neg (by omega)]
theorem Zow (ns:List Nat) (l i:Nat) (hl:1≤l) (hi:i<ns.length):ZeB ns l (i+1)=if ns.getD i 0=l then (ZeB ns l i).set i (base ns l+(ns.take i).count l) else ZeB ns l i:=by
 apply List.ext_getElem
 ·split<;>simp [ZeB]
 ·intro j h1 h2
  have hj:j<ns.length:=by simpa [ZeB] using h1
  by_cases hc:ns.getD i 0=l
  ·simp only [if_pos hc,List.getElem_set]
   by_cases e:i=j
   ·subst e
    rw [if_pos rfl]
    simp only [ZeB,List.getElem_map,List.getElem_range]
    rw [if_pos (by omega)]
    unfold ZcZ;rw [hc]
   ·rw [if_neg e]
    simp only [ZeB,List.getElem_map,List.getElem_range]
    by_cases h:(1≤ns.getD j 0∧ns.getD j 0<l)∨(1≤l∧ns.getD j 0=l∧j<i)
    ·rw [if_pos h,if_pos (by omega)]
    ·rw [if_neg h,if_neg (by omega)]
  ·simp only [if_neg hc]
   simp only [ZeB,List.getElem_map,List.getElem_range]
   by_cases h:(1≤ns.getD j 0∧ns.getD j 0<l)∨(1≤l∧ns.getD j 0=l∧j<i)
   ·rw [if_pos h,if_pos (by omega)]
   ·rw [if_neg h]
    by_cases e:j=i
    ·subst e;rw [if_neg (by omega)]
    ·rw [if_neg (by omega)]
theorem ZdW (ns:List Nat) (l i:Nat) (hi:i<ns.length):(ns.take (i+1)).count l=(ns.take i).count l+if ns.getD i 0=l then 1 else 0:=by
 rw [List.take_succ_eq_append_getElem hi,List.count_append,Zam hi]
 by_cases h:ns[i]=l<;>simp [h]
theorem Zsf (ns:List Nat) (hn:ns.length≤1000) (l:Nat) (hl:1≤l) (hl15:l≤15):∀(j i:Nat),i+j=ns.length→
  Zcc.l0 (j+1) (zs ns,((base ns l+(ns.take i).count l:Nat):Int),(l:Int),zs ns,(ns.length:Int),(i:Int),zs (ZeB ns l i))=some (zs ns,((base ns l+ns.count l:Nat):Int),(l:Int),zs (ZeB ns (l+1) 0))
 | 0,i,hi=>by
  have:i=ns.length:=by omega
  subst this
  rw [Zcc.l0.succ];simp only [Zcc.l0.step,Zag]
  rw [Za0 (by omega),List.take_length,Zmf ns l hl];rfl
 | j+1,i,hi=>by
  have hlt:i<ns.length:=by omega
  have ih:=Zsf ns hn l hl hl15 j (i+1) (by omega)
  have hb:=Zhe ns hn l (by omega)
  have hc:=List.count_le_length (a:=l) (l:=ns.take i)
  rw [List.length_take] at hc
  rw [ZdW ns l i hlt,Zow ns l i hl hlt] at ih
  rw [Zcc.l0.succ];simp only [Zcc.l0.step,Zag,ZgG]
  rw [ZaZ hlt,cond_true,Zab _ ZaE,Int.toNat_natCast,ZaD]
  ((try simp (disch:=omega) only [Zan,Zal,Zak,Zad,Zas,ZaN,Zaf,Zaz,Zaw,Zae,Option.map_some,cond_true,cond_false,Int.sub_zero,Int.toNat_natCast]);(try simp only [Zbj,Zdo,Zdp,Zat,Zbs,if_true,if_false]))
  by_cases h:ns.getD i 0=l
  ·rw [if_pos (by omega),Zab _ ZaE,show (i:Int)+1=((i+1:Nat):Int) by omega,show ((base ns l+(ns.take i).count l:Nat):Int)+1=((base ns l+((ns.take i).count l+1):Nat):Int) by omega,ZeV]
   rw [if_pos h,if_pos h] at ih
   rw [ih]
  ·rw [if_neg (by omega),show (i:Int)+1=((i+1:Nat):Int) by omega]
   rw [if_neg h,if_neg h] at ih
   simp only [Nat.add_zero] at ih
   rw [ih]
theorem Zse (ns:List Nat) (hn:ns.length≤1000):∀(j l:Nat),l+j=16→1≤l→Zcc.l1 (j+1) (zs ns,((base ns l:Nat):Int),(l:Int),zs (ZeB ns l 0))=some (zs (ZbL ns))
 | 0,l,hl,h1=>by
  have:l=16:=by omega
  subst this
  rw [Zcc.l1.succ];simp only [Zcc.l1.step]
  rfl
 | j+1,l,hl,h1=>by
  have ih:=Zse ns hn j (l+1) (by omega) (by omega)
  have h0:=Zsf ns hn l h1 (by omega) ns.length 0 (by omega)
  have hb:=Zhe ns hn l (by omega)
  have hc:=List.count_le_length (a:=l) (l:=ns)
  rw [List.take_zero,List.count_nil,show ((0:Nat):Int)=0 from rfl] at h0
  simp only [Nat.add_zero] at h0
  rw [Zcc.l1.succ];simp only [Zcc.l1.step,Zag]
  ((try simp (disch:=omega) only [Zan,Zal,Zak,Zad,Zas,ZaN,Zaf,Zaz,Zaw,Zae,Option.map_some,cond_true,cond_false,Int.sub_zero,Int.toNat_natCast]);(try simp only [Zbj,Zdo,Zdp,Zat,Zbs,if_true,if_false]))
  rw [if_pos (by omega),h0]
  simp only [Zae]
  ((try simp (disch:=omega) only [Zan,Zal,Zak,Zad,Zas,ZaN,Zaf,Zaz,Zaw,Zae,Option.map_some,cond_true,cond_false,Int.sub_zero,Int.toNat_natCast]);(try simp only [Zbj,Zdo,Zdp,Zat,Zbs,if_true,if_false]))
  have e:base ns (l+1)=2*(base ns l+ns.count l):=by
   cases l with
   | zero=>omega
   | succ l=>rfl
  rw [show ((base ns l+ns.count l:Nat):Int)*2=((base ns (l+1):Nat):Int) by rw [e];omega,show (l:Int)+1=((l+1:Nat):Int) by omega,ih]
theorem Zkd (ns:List Nat) (hn:ns.length≤1000):Zcc (zs ns)=some (zs (ZbL ns)):=by
 unfold Zcc
 have h:=Zse ns hn 15 1 (by omega) (by omega)
 rw [Zme,←Zff] at h
 rw [Zag,Zak (by omega) (by rw [Int.toNat_natCast];omega),Int.toNat_natCast]
 rw [show ((15:Int)-1).toNat+2=15+1 from rfl]
 have e:((base ns 1:Nat):Int)=0:=rfl
 rw [e,show ((1:Nat):Int)=1 from rfl,show ((0:Nat):Int)=0 from rfl] at h
 rw [h];rfl
theorem ZmP (ns:List Nat) (hn:ns.length≤1000) (l:Nat) (hl:1≤l) (hl15:l≤15):∀(j i:Nat),i+j=ns.length→
  ZaH.l0 (j+1) (zs ns,((base ns l+(ns.take i).count l:Nat):Int),(l:Int),(i:Int),zs (ZeB ns l i))=some (zs ns,((base ns l+ns.count l:Nat):Int),(l:Int),zs (ZeB ns (l+1) 0))
 | 0,i,hi=>by
  have:i=ns.length:=by omega
  subst this
  rw [ZaH.l0.succ];simp only [ZaH.l0.step,Zag]
  rw [Za0 (by omega),List.take_length,Zmf ns l hl];rfl
 | j+1,i,hi=>by
  have hlt:i<ns.length:=by omega
  have ih:=ZmP ns hn l hl hl15 j (i+1) (by omega)
  have hb:=Zhe ns hn l (by omega)
  have hc:=List.count_le_length (a:=l) (l:=ns.take i)
  rw [List.length_take] at hc
  rw [ZdW ns l i hlt,Zow ns l i hl hlt] at ih
  rw [ZaH.l0.succ];simp only [ZaH.l0.step,Zag,ZgG]
  rw [ZaZ hlt,cond_true,Zab _ ZaE,Int.toNat_natCast,ZaD]
  ((try simp (disch:=omega) only [Zan,Zal,Zak,Zad,Zas,ZaN,Zaf,Zaz,Zaw,Zae,Option.map_some,cond_true,cond_false,Int.sub_zero,Int.toNat_natCast]);(try simp only [Zbj,Zdo,Zdp,Zat,Zbs,if_true,if_false]))
  by_cases h:ns.getD i 0=l
  ·rw [if_pos (by omega),Zab _ ZaE,show (i:Int)+1=((i+1:Nat):Int) by omega,show ((base ns l+(ns.take i).count l:Nat):Int)+1=((base ns l+((ns.take i).count l+1):Nat):Int) by omega,ZeV]
   rw [if_pos h,if_pos h] at ih
   rw [ih]
  ·rw [if_neg (by omega),show (i:Int)+1=((i+1:Nat):Int) by omega]
   rw [if_neg h,if_neg h] at ih
   simp only [Nat.add_zero] at ih
   rw [ih]
theorem ZmO (ns:List Nat) (hn:ns.length≤1000):∀(j l:Nat),l+j=16→1≤l→ZaH.l1 (j+1) (zs ns,((base ns l:Nat):Int),(l:Int),zs (ZeB ns l 0))=some (zs (ZbL ns))
 | 0,l,hl,h1=>by
  have:l=16:=by omega
  subst this
  rw [ZaH.l1.succ];simp only [ZaH.l1.step]
  rfl
 | j+1,l,hl,h1=>by
  have ih:=ZmO ns hn j (l+1) (by omega) (by omega)
  have h0:=ZmP ns hn l h1 (by omega) ns.length 0 (by omega)
  have hb:=Zhe ns hn l (by omega)
  have hc:=List.count_le_length (a:=l) (l:=ns)
  rw [List.take_zero,List.count_nil,show ((0:Nat):Int)=0 from rfl] at h0
  simp only [Nat.add_zero] at h0
  rw [ZaH.l1.succ];simp only [ZaH.l1.step,Zag]
  ((try simp (disch:=omega) only [Zan,Zal,Zak,Zad,Zas,ZaN,Zaf,Zaz,Zaw,Zae,Option.map_some,cond_true,cond_false,Int.sub_zero,Int.toNat_natCast]);(try simp only [Zbj,Zdo,Zdp,Zat,Zbs,if_true,if_false]))
  rw [if_pos (by omega),h0]
  simp only [Zae]
  ((try simp (disch:=omega) only [Zan,Zal,Zak,Zad,Zas,ZaN,Zaf,Zaz,Zaw,Zae,Option.map_some,cond_true,cond_false,Int.sub_zero,Int.toNat_natCast]);(try simp only [Zbj,Zdo,Zdp,Zat,Zbs,if_true,if_false]))
  have e:base ns (l+1)=2*(base ns l+ns.count l):=by
   cases l with
   | zero=>omega
   | succ l=>rfl
  rw [show 2*((base ns l+ns.count l:Nat):Int)=((base ns (l+1):Nat):Int) by rw [e];omega,show (l:Int)+1=((l+1:Nat):Int) by omega,ih]
theorem Zeg (ns:List Nat) (hn:ns.length≤1000):ZaH (zs ns)=some (zs (ZbL ns)):=by
 unfold ZaH
 have h:=ZmO ns hn 15 1 (by omega) (by omega)
 rw [Zme,←Zff] at h
 rw [Zag,Zak (by omega) (by rw [Int.toNat_natCast];omega),Int.toNat_natCast]
 rw [show ((15:Int)-1).toNat+2=15+1 from rfl]
 have e:((base ns 1:Nat):Int)=0:=rfl
 rw [e,show ((1:Nat):Int)=1 from rfl,show ((0:Nat):Int)=0 from rfl] at h
 rw [h];rfl
def Zey (ns:List Nat) (k c l:Nat):Option Nat:=(List.range k).find? fun i=>decide (0<ns.getD i 0)&&(decide (ns.getD i 0=l)&&decide (ZcZ ns i=c))
theorem Zu8 (ns:List Nat) {i j:Nat} (hi:i<ns.length) (hj:j<ns.length) (hl:ns.getD i 0=ns.getD j 0) (hc:ZcZ ns i=ZcZ ns j):i=j:=by
 have key:∀{i j:Nat},i<j→j<ns.length→ns.getD i 0=ns.getD j 0→ZcZ ns i<ZcZ ns j:=fun {i j} hij hj hl=>by
  unfold ZcZ
  rw [hl]
  have h1:=ZdW ns (ns.getD j 0) i (by omega)
  rw [if_pos hl] at h1
  have h2:(ns.take (i+1)).count (ns.getD j 0)≤(ns.take j).count (ns.getD j 0):=by
   have:ns.take (i+1)=(ns.take j).take (i+1):=by rw [List.take_take,Nat.min_eq_left (by omega)]
   rw [this]
   exact (List.take_sublist _ _).count_le _
  omega
 rcases Nat.lt_trichotomy i j with h | h | h
 ·have:=key h hj hl;omega
 ·exact h
 ·have:=key h hi hl.symm;omega
theorem Zhb {ns:List Nat} {k c l i:Nat} (h:Zey ns k c l=some i):i<k∧0<ns.getD i 0∧ns.getD i 0=l∧ZcZ ns i=c:=by
 unfold Zey at h
 have h1:=List.find?_some h
 have h2:=List.mem_of_find?_eq_some h
 simp only [Bool.and_eq_true,decide_eq_true_eq] at h1
 exact ⟨List.mem_range.1 h2,h1⟩
theorem Zn3 {ns:List Nat} {k i:Nat} (hk:k≤ns.length) (hi:i<k) (h0:0<ns.getD i 0):Zey ns k (ZcZ ns i) (ns.getD i 0)=some i:=by
 cases h:Zey ns k (ZcZ ns i) (ns.getD i 0) with
 | none=>
  unfold Zey at h
  have:=List.find?_eq_none.1 h i (List.mem_range.2 hi)
  exact absurd (by simp only [Bool.and_eq_true,decide_eq_true_eq];exact ⟨h0,trivial,trivial⟩) this
 | some j=>
  obtain ⟨h1,h2,h3,h4⟩:=Zhb h
  rw [Zu8 ns (by omega) (by omega) h3 h4]
theorem Zjc (ns:List Nat) (k c l:Nat) (hk:k<ns.length):Zey ns (k+1) c l=if 0<ns.getD k 0∧ns.getD k 0=l∧ZcZ ns k=c then some k else Zey ns k c l:=by
 by_cases h:0<ns.getD k 0∧ns.getD k 0=l∧ZcZ ns k=c
 ·rw [if_pos h]
  obtain ⟨h1,rfl,rfl⟩:=h
  exact Zn3 (by omega) (by omega) h1
 ·rw [if_neg h]
  unfold Zey
  rw [List.range_succ,List.find?_append]
  have:List.find? (fun i=>decide (0<ns.getD i 0)&&(decide (ns.getD i 0=l)&&decide (ZcZ ns i=c))) [k]=none:=by
   rw [List.find?_cons]
   have:(decide (0<ns.getD k 0)&&(decide (ns.getD k 0=l)&&decide (ZcZ ns k=c)))=false:=by
    rw [Bool.eq_false_iff];intro hh;simp only [Bool.and_eq_true,decide_eq_true_eq] at hh;exact h hh
   rw [this];rfl
  rw [this]
  cases List.find? (fun i=>decide (0<ns.getD i 0)&&(decide (ns.getD i 0=l)&&decide (ZcZ ns i=c))) (List.range k)<;>rfl
def Zqh (ns:List Nat) (k:Nat) (es:List ((Int×Int)×Int)):Prop:=∀c l:Nat,ZdQ [.int .i64,.int .i64] [.int .i64] es ((c:Int),(l:Int))=(Zey ns k c l).map fun (n:Nat)=>(n:Int)
theorem ZsP (es:List ((Int×Int)×Int)) (k k':Int×Int) (v:Int):ZdQ [.int .i64,.int .i64] [.int .i64] (ZeF [.int .i64,.int .i64] [.int .i64] es k v) k'=if k'=k then some v else ZdQ [.int .i64,.int .i64] [.int .i64] es k':=by
 have eqb:∀a b:Int×Int,El.eqb [.int .i64,.int .i64] a b=decide (a=b):=fun a b=>by
  rw [Bool.eq_iff_iff]
  simp only [El.eqb,Sc.eqb,Bool.and_true,Bool.and_eq_true,beq_iff_eq,decide_eq_true_eq]
  exact ⟨fun h=>Prod.ext h.1 h.2,fun h=>by rw [h];exact ⟨rfl,rfl⟩⟩
 induction es with
 | nil=>
  simp only [ZeF,ZdQ,eqb]
  by_cases h:k'=k<;>simp [h]
 | cons e r ih=>
  simp only [ZeF,eqb]
  by_cases h1:k=e.1
  ·rw [decide_eq_true h1,cond_true]
   simp only [ZdQ,eqb]
   by_cases h:k'=k
   ·simp [h]
   ·have:¬k'=e.1:=fun x=>h (x.trans h1.symm)
    simp [h,this]
  ·rw [decide_eq_false h1,cond_false]
   simp only [ZdQ,eqb]
   by_cases h:k'=e.1
   ·have:¬k'=k:=fun x=>h1 (x.symm.trans h)
    rw [decide_eq_true h,cond_true,cond_true,if_neg this]
   ·rw [decide_eq_false h,cond_false,cond_false];exact ih
end Ev
end
section
namespace Ev
open Go
theorem ZcY (ns:List Nat):(ZbL ns).length=ns.length:=ZgG ns 16 0
theorem Zf0 (ns:List Nat) (h15:∀n∈ns,n≤15) (i:Nat) (hi:i<ns.length) (h0:0<ns.getD i 0):(ZbL ns).getD i 0=ZcZ ns i:=by
 have hm:ns.getD i 0≤15:=by rw [Zam hi];exact h15 _ (List.getElem_mem hi)
 rw [Zam (by rw [ZcY];exact hi)]
 simp only [ZbL,ZeB,List.getElem_map,List.getElem_range]
 rw [if_pos (by omega)]
theorem ZlG (ns:List Nat) (hn:ns.length≤1000) (h15:∀n∈ns,n≤15):∀(j i:Nat) (es:List ((Int×Int)×Int)),i+j=ns.length→Zqh ns i es→
  Ret (ZbS.l0 (j+1) (zs ns,(ns.length:Int),(i:Int),es,zs (ZbL ns))) (Zqh ns ns.length)
 | 0,i,es,hi,h=>by
  have:i=ns.length:=by omega
  subst this
  rw [ZbS.l0.succ];simp only [ZbS.l0.step]
  rw [Za0 (by omega)];exact .pure h
 | j+1,i,es,hi,h=>by
  have hlt:i<ns.length:=by omega
  have hm:ns.getD i 0≤15:=by rw [Zam hlt];exact h15 _ (List.getElem_mem hlt)
  rw [ZbS.l0.succ];simp only [ZbS.l0.step,Zag,ZcY]
  rw [ZaZ hlt,cond_true,Zab _ ZaE,Zab _ ZaE,Int.toNat_natCast,ZaD,ZaD]
  ((try simp (disch:=omega) only [Zan,Zal,Zak,Zad,Zas,ZaN,Zaf,Zaz,Zaw,Zae,Option.map_some,cond_true,cond_false,Int.sub_zero,Int.toNat_natCast]);(try simp only [Zbj,Zdo,Zdp,Zat,Zbs,if_true,if_false]))
  by_cases h0:0<ns.getD i 0
  ·rw [if_pos (by omega),Zab _ ZaE,show (i:Int)+1=((i+1:Nat):Int) by omega,Zf0 ns h15 i hlt h0]
   refine ZlG ns hn h15 j (i+1) _ (by omega) fun c l=>?_
   rw [ZsP,h c l,Zjc ns i c l hlt]
   by_cases hc:0<ns.getD i 0∧ns.getD i 0=l∧ZcZ ns i=c
   ·rw [if_pos hc,if_pos (by obtain ⟨_,rfl,rfl⟩:=hc;rfl)];rfl
   ·rw [if_neg hc,if_neg (fun e=>hc ⟨h0,by have e2:(l:Int)=((ns.getD i 0:Nat):Int):=(Prod.mk.inj e).2;omega,by have e1:(c:Int)=((ZcZ ns i:Nat):Int):=(Prod.mk.inj e).1;omega⟩)]
  ·rw [if_neg (by omega),show (i:Int)+1=((i+1:Nat):Int) by omega]
   refine ZlG ns hn h15 j (i+1) _ (by omega) fun c l=>?_
   rw [h c l,Zjc ns i c l hlt,if_neg (fun e=>h0 e.1)]
theorem Zjn (ns:List Nat) (hn:ns.length≤1000) (h15:∀n∈ns,n≤15):Ret (ZbS (zs ns)) (Zqh ns ns.length):=by
 unfold ZbS
 rw [Zkd ns hn]
 simp only [Zae,Zag,ZcY]
 rw [ZaJ]
 refine .bind (ZlG ns hn h15 ns.length 0 [] (by omega) fun c l=>?_) fun a ha=>.pure ha
 simp [ZdQ,Zey]
def Ze0 (ns:List Nat):Nat→Nat→Nat→List Bool→Option (Nat×List Bool)
 | 0,_,_,_=>none
 | _+1,_,_,[]=>none
 | f+1,l,c,b::r=>match Zey ns ns.length (2*c+b.toNat) l with
  | some i=>some (i,r)
  | none=>Ze0 ns f (l+1) (2*c+b.toNat) r
def ZjI (ns:List Nat) (m:Option (List Bool)):Option (Nat×List Bool):=m.bind (Ze0 ns 15 1 0)
def ZxF (s:Str) (x:Option (Nat×List Bool)) (v at_:Int) (bad:Bool):Prop:=match x with
 | some (i,l)=>v=(i:Int)∧Rs s at_ bad (some l)
 | none=>v=0∧Rs s at_ bad none
theorem Zmn {s:Str} (hs:s.length≤1000000000) (ns:List Nat) (book:List ((Int×Int)×Int)) (hB:Zqh ns ns.length book):∀(f l c:Nat) (at_:Int) (bad:Bool) (m:Option (List Bool)),l+f=16→c<2^l→Rs s at_ bad m→
  Ret (Zbd.l0 (f+1) ((c:Int),(l:Int),s,at_,bad,book)) fun r=>match m.bind (Ze0 ns f l c) with
   | some (i,l')=>∃a,r=.inr ((i:Int),s,a,false,book)∧Rs s a false (some l')
   | none=>∃a b,r=.inl (s,a,b,book)∧∃m',Rs s a b m'
 | 0,l,c,at_,bad,m,hf,hc,h=>by
  rw [Zbd.l0.succ];simp only [Zbd.l0.step]
  ((try simp (disch:=omega) only [Zan,Zal,Zak,Zad,Zas,ZaN,Zaf,Zaz,Zaw,Zae,Option.map_some,cond_true,cond_false,Int.sub_zero,Int.toNat_natCast]);(try simp only [Zbj,Zdo,Zdp,Zat,Zbs,if_true,if_false]))
  rw [if_neg (by omega)]
  have:m.bind (Ze0 ns 0 l c)=none:=by cases m<;>rfl
  rw [this]
  exact .pure ⟨at_,bad,rfl,_,h⟩
 | f+1,l,c,at_,bad,m,hf,hc,h=>by
  have hp:2^l≤2^15:=Nat.pow_le_pow_right (by omega) (by omega)
  rw [Zbd.l0.succ];simp only [Zbd.l0.step]
  ((try simp (disch:=omega) only [Zan,Zal,Zak,Zad,Zas,ZaN,Zaf,Zaz,Zaw,Zae,Option.map_some,cond_true,cond_false,Int.sub_zero,Int.toNat_natCast]);(try simp only [Zbj,Zdo,Zdp,Zat,Zbs,if_true,if_false]))
  rw [if_pos (by omega)]
  refine .bind (ZiT hs h) ?_
  rintro ⟨r,s',at',bad'⟩ ⟨rfl,b,rfl,h2,h3⟩
  dsimp only at h2 h3 ⊢
  have hb:b.toNat≤1:=by cases b<;>decide
  ((try simp (disch:=omega) only [Zan,Zal,Zak,Zad,Zas,ZaN,Zaf,Zaz,Zaw,Zae,Option.map_some,cond_true,cond_false,Int.sub_zero,Int.toNat_natCast]);(try simp only [Zbj,Zdo,Zdp,Zat,Zbs,if_true,if_false]))
  rw [show 2*(c:Int)+((b.toNat:Nat):Int)=((2*c+b.toNat:Nat):Int) by omega,show (l:Int)+1=((l+1:Nat):Int) by omega,hB _ _]
  have go:∀m2,Rs s' at' bad' m2→Ret (Zbd.l0 (f+1) (((2*c+b.toNat:Nat):Int),((l+1:Nat):Int),s',at',bad',book)) fun r=>match m2.bind (Ze0 ns f (l+1) (2*c+b.toNat)) with
   | some (i,l')=>∃a,r=.inr ((i:Int),s',a,false,book)∧Rs s' a false (some l')
   | none=>∃a b,r=.inl (s',a,b,book)∧∃m',Rs s' a b m':=fun m2 h4=>Zmn hs ns book hB f (l+1) _ at' bad' m2 (by omega) (by rw [Nat.pow_succ];omega) h4
  have fail:Rs s' at' bad' none→m.bind (Ze0 ns (f+1) l c)=none→Ret (((if ((Zey ns ns.length (2*c+b.toNat) l).map fun (n:Nat)=>(n:Int)).isSome=true then some (!bad') else some false).bind fun c_1=>
    bif c_1 then some (Sum.inr (((Zey ns ns.length (2*c+b.toNat) l).map fun (n:Nat)=>(n:Int)).getD 0,s',at',bad',book)) else Zbd.l0 (f+1) (((2*c+b.toNat:Nat):Int),((l+1:Nat):Int),s',at',bad',book))) fun r=>match m.bind (Ze0 ns (f+1) l c) with
   | some (i,l')=>∃a,r=.inr ((i:Int),s',a,false,book)∧Rs s' a false (some l')
   | none=>∃a b,r=.inl (s',a,b,book)∧∃m',Rs s' a b m':=fun h4 e=>by
   rw [e]
   have hbad:bad'=true:=h4.1
   have e2:(if ((Zey ns ns.length (2*c+b.toNat) l).map fun (n:Nat)=>(n:Int)).isSome=true then some (!bad') else some false)=some false:=by
    rw [hbad];split<;>rfl
   rw [e2]
   simp only [Zae,cond_false]
   exact go none h4
  have hform:∀(x:Option Int) (y z:Option (((Str×Int×Bool×List ((Int×Int)×Int))⊕(Int×Str×Int×Bool×List ((Int×Int)×Int))))),((bif x.isSome then some (!bad') else some false).bind fun c_1=>bif c_1 then y else z)=((if x.isSome=true then some (!bad') else some false).bind fun c_1=>bif c_1 then y else z):=fun x y z=>by cases x<;>rfl
  rw [hform]
  cases m with
  | none=>exact fail h2 rfl
  | some lst=>
   cases lst with
   | nil=>exact fail h2 rfl
   | cons b' l0=>
    have hbb:=h3 b' l0 rfl
    subst hbb
    have hbad:bad'=false:=h2.1
    subst hbad
    simp only [Option.bind_some,Ze0]
    cases hfi:Zey ns ns.length (2*c+b.toNat) l with
    | some i=>
     simp only [Option.map_some,Option.isSome_some,if_true,Zae,Bool.not_false,cond_true,Option.getD_some]
     exact .pure ⟨at',rfl,h2⟩
    | none=>
     simp only [Option.map_none,Option.isSome_none,Zae,cond_false,Bool.false_eq_true,if_false]
     exact go (some l0) h2
theorem ZiR {s:Str} {at_:Int} {bad:Bool} {m:Option (List Bool)} (hs:s.length≤1000000000) (ns:List Nat) {book:List ((Int×Int)×Int)} (hB:Zqh ns ns.length book) (h:Rs s at_ bad m) :
  Ret (Zbd s at_ bad book) fun r=>r.2.1=s∧r.2.2.2.2=book∧ZxF s (ZjI ns m) r.1 r.2.2.1 r.2.2.2.1:=by
 unfold Zbd
 have h0:=Zmn hs ns book hB 15 1 0 at_ bad m (by omega) (by omega) h
 rw [show ((15:Int)-1).toNat+2=15+1 from rfl]
 refine .bind h0 fun r hr=>?_
 unfold ZjI
 cases hm:m.bind (Ze0 ns 15 1 0) with
 | none=>
  rw [hm] at hr
  obtain ⟨a,b,rfl,m',h'⟩:=hr
  exact .pure ⟨rfl,rfl,rfl,h'.fail⟩
 | some x=>
  obtain ⟨i,l'⟩:=x
  rw [hm] at hr
  obtain ⟨a,rfl,h'⟩:=hr
  exact .pure ⟨rfl,rfl,rfl,h'⟩
theorem Zmk (s:Str) (at_:Int) (bad:Bool) (ns:List Nat) (hn:ns.length≤1000) (h15:∀n∈ns,n≤15) (c l:Nat) (hl:1≤l):∀(j i:Nat),i+j=ns.length→Zey ns i c l=none→
  ZaO.l0 (j+1) (zs ns,zs (ZbL ns),(c:Int),(l:Int),(i:Int),s,at_,bad)=some (match Zey ns ns.length c l with
   | some k=>.inr (.inr ((k:Int),s,at_,bad))
   | none=>.inl (zs ns,zs (ZbL ns),(c:Int),(l:Int),s,at_,bad))
 | 0,i,hi,h=>by
  have:i=ns.length:=by omega
  subst this
  rw [ZaO.l0.succ];simp only [ZaO.l0.step,Zag]
  rw [Za0 (by omega),h];rfl
 | j+1,i,hi,h=>by
  have hlt:i<ns.length:=by omega
  rw [ZaO.l0.succ];simp only [ZaO.l0.step,Zag,ZcY]
  rw [ZaZ hlt,cond_true,Zab _ ZaE,Zab _ ZaE,Int.toNat_natCast,ZaD,ZaD]
  by_cases hc:0<ns.getD i 0∧ns.getD i 0=l∧ZcZ ns i=c
  ·have hfull:Zey ns ns.length c l=some i:=by
    obtain ⟨h1,rfl,rfl⟩:=hc
    exact Zn3 (Nat.le_refl _) hlt h1
   obtain ⟨h1,h2,h3⟩:=hc
   have e1:(((ns.getD i 0:Nat):Int)==(l:Int))=true:=by rw [beq_iff_eq];omega
   have e2:((((ZbL ns).getD i 0:Nat):Int)==(c:Int))=true:=by rw [Zf0 ns h15 i hlt h1,beq_iff_eq];omega
   rw [e1,e2,hfull]
   simp only [cond_true,Zae,Option.map_some]
  ·have hnext:Zey ns (i+1) c l=none:=by rw [Zjc ns i c l hlt,if_neg hc];exact h
   have ih:=Zmk s at_ bad ns hn h15 c l hl j (i+1) (by omega) hnext
   have e:(bif (((ns.getD i 0:Nat):Int)==(l:Int)) then (some ((((ZbL ns).getD i 0:Nat):Int)==(c:Int))) else some false)=some false:=by
    by_cases h2:ns.getD i 0=l
    ·have e1:(((ns.getD i 0:Nat):Int)==(l:Int))=true:=by rw [beq_iff_eq];omega
     have e2:((((ZbL ns).getD i 0:Nat):Int)==(c:Int))=false:=by
      rw [Zf0 ns h15 i hlt (by omega),beq_eq_false_iff_ne]
      intro h3;exact hc ⟨by omega,h2,by omega⟩
     rw [e1,e2];rfl
    ·have e1:(((ns.getD i 0:Nat):Int)==(l:Int))=false:=by rw [beq_eq_false_iff_ne];omega
     rw [e1];rfl
   rw [e]
   simp only [Zae,cond_false]
   rw [Zdc (by omega),ih]
def ZwH (s:Str) (n:Nat) (x:Option (Nat×List Bool)) (v at_:Int) (bad:Bool):Prop:=match x with
 | some (i,l)=>v=(i:Int)∧Rs s at_ bad (some l)
 | none=>-1≤v∧v<n∧Rs s at_ bad none
theorem Zmj {s:Str} (hs:s.length≤1000000000) (ns:List Nat) (hn:ns.length≤1000) (h15:∀n∈ns,n≤15):∀(f l c:Nat) (at_:Int) (bad:Bool) (m:Option (List Bool)),l+f=16→1≤l→c<2^l→Rs s at_ bad m→
  Ret (ZaO.l1 (f+1) (zs ns,zs (ZbL ns),(c:Int),(l:Int),s,at_,bad)) fun r=>match m.bind (Ze0 ns f l c) with
   | some (i,l')=>∃a,r=.inr ((i:Int),s,a,false)∧Rs s a false (some l')
   | none=>(∃a b,r=.inl (s,a,b)∧∃m',Rs s a b m')∨(∃k a,k<ns.length∧r=.inr ((k:Int),s,a,true)∧Rs s a true none)
 | 0,l,c,at_,bad,m,hf,h1,hc,h=>by
  rw [ZaO.l1.succ];simp only [ZaO.l1.step]
  ((try simp (disch:=omega) only [Zan,Zal,Zak,Zad,Zas,ZaN,Zaf,Zaz,Zaw,Zae,Option.map_some,cond_true,cond_false,Int.sub_zero,Int.toNat_natCast]);(try simp only [Zbj,Zdo,Zdp,Zat,Zbs,if_true,if_false]))
  rw [if_neg (by omega)]
  have:m.bind (Ze0 ns 0 l c)=none:=by cases m<;>rfl
  rw [this]
  exact .pure (.inl ⟨at_,bad,rfl,_,h⟩)
 | f+1,l,c,at_,bad,m,hf,h1,hc,h=>by
  have hp:2^l≤2^15:=Nat.pow_le_pow_right (by omega) (by omega)
  rw [ZaO.l1.succ];simp only [ZaO.l1.step,Zag]
  ((try simp (disch:=omega) only [Zan,Zal,Zak,Zad,Zas,ZaN,Zaf,Zaz,Zaw,Zae,Option.map_some,cond_true,cond_false,Int.sub_zero,Int.toNat_natCast]);(try simp only [Zbj,Zdo,Zdp,Zat,Zbs,if_true,if_false]))
  rw [if_pos (by omega)]
  simp only [Zae]
  cases bad with
  | true=>
   have hm:m=none:=by cases m with
    | none=>rfl
    | some l=>exact absurd h.1 (by simp)
   subst hm
   exact .pure (.inl ⟨at_,true,rfl,_,h⟩)
  | false=>
  simp only [Bool.not_false,cond_true]
  refine .bind (Zqx hs h) ?_
  rintro ⟨r,s',at',bad'⟩ ⟨rfl,b,rfl,h2,h3⟩
  dsimp only at h2 h3 ⊢
  have hb:b.toNat≤1:=by cases b<;>decide
  ((try simp (disch:=omega) only [Zan,Zal,Zak,Zad,Zas,ZaN,Zaf,Zaz,Zaw,Zae,Option.map_some,cond_true,cond_false,Int.sub_zero,Int.toNat_natCast]);(try simp only [Zbj,Zdo,Zdp,Zat,Zbs,if_true,if_false]))
  have h0:=Zmk s' at' bad' ns hn h15 (2*c+b.toNat) l h1 ns.length 0 (by omega) (by simp [Zey])
  rw [show ((0:Nat):Int)=0 from rfl] at h0
  rw [show 2*(c:Int)+((b.toNat:Nat):Int)=((2*c+b.toNat:Nat):Int) by omega,h0]
  simp only [Zae]
  have go:∀m2,Rs s' at' bad' m2→Ret (ZaO.l1 (f+1) (zs ns,zs (ZbL ns),((2*c+b.toNat:Nat):Int),((l+1:Nat):Int),s',at',bad')) fun r=>match m2.bind (Ze0 ns f (l+1) (2*c+b.toNat)) with
   | some (i,l')=>∃a,r=.inr ((i:Int),s',a,false)∧Rs s' a false (some l')
   | none=>(∃a b,r=.inl (s',a,b)∧∃m',Rs s' a b m')∨(∃k a,k<ns.length∧r=.inr ((k:Int),s',a,true)∧Rs s' a true none):=fun m2 h4=>Zmj hs ns hn h15 f (l+1) _ at' bad' m2 (by omega) (by omega) (by rw [Nat.pow_succ];omega) h4
  have hfail:Rs s' at' bad' none→m.bind (Ze0 ns (f+1) l c)=none→Ret (match (match Zey ns ns.length (2*c+b.toNat) l with
     | some k=>(Sum.inr (Sum.inr ((k:Int),s',at',bad')):(List Int×List Int×Int×Int×Str×Int×Bool)⊕((Str×Int×Bool)⊕(Int×Str×Int×Bool)))
     | none=>.inl (zs ns,zs (ZbL ns),((2*c+b.toNat:Nat):Int),(l:Int),s',at',bad')) with
    | .inl (lens3,codes_3,code_2,n2,o6,o7,o8)=>ZaO.l1 (f+1) (lens3,codes_3,code_2,w64 (n2+1),o6,o7,o8)
    | .inr r=>some r) fun r=>match m.bind (Ze0 ns (f+1) l c) with
   | some (i,l')=>∃a,r=.inr ((i:Int),s',a,false)∧Rs s' a false (some l')
   | none=>(∃a b,r=.inl (s',a,b)∧∃m',Rs s' a b m')∨(∃k a,k<ns.length∧r=.inr ((k:Int),s',a,true)∧Rs s' a true none):=fun h4 e=>by
   rw [e]
   have hbad:bad'=true:=h4.1
   subst hbad
   cases hfi:Zey ns ns.length (2*c+b.toNat) l with
   | some k=>exact .pure (.inr ⟨k,at',(Zhb hfi).1,rfl,h4⟩)
   | none=>
    dsimp only
    rw [Zdc (by omega)]
    exact go none h4
  cases m with
  | none=>exact absurd h.1 (by simp)
  | some lst=>
   cases lst with
   | nil=>exact hfail h2 rfl
   | cons b' l0=>
    have hbb:=h3 b' l0 rfl
    subst hbb
    have hbad:bad'=false:=h2.1
    subst hbad
    simp only [Option.bind_some,Ze0]
    cases hfi:Zey ns ns.length (2*c+b.toNat) l with
    | some i=>exact .pure ⟨at',rfl,h2⟩
    | none=>
     dsimp only
     rw [Zdc (by omega)]
     exact go (some l0) h2
theorem ZiM {s:Str} {at_:Int} {bad:Bool} {m:Option (List Bool)} (hs:s.length≤1000000000) (ns:List Nat) (hn:ns.length≤1000) (h15:∀n∈ns,n≤15) (h:Rs s at_ bad m) :
  Ret (ZaO (zs ns) (zs (ZbL ns)) s at_ bad) fun r=>r.2.1=s∧ZwH s ns.length (ZjI ns m) r.1 r.2.2.1 r.2.2.2:=by
 unfold ZaO
 have h0:=Zmj hs ns hn h15 15 1 0 at_ bad m (by omega) (by omega) (by omega) h
 rw [show ((15:Int)-1).toNat+2=15+1 from rfl]
 refine .bind h0 fun r hr=>?_
 unfold ZjI
 cases hm:m.bind (Ze0 ns 15 1 0) with
 | none=>
  rw [hm] at hr
  rcases hr with ⟨a,b,rfl,m',h'⟩ | ⟨k,a,hk,rfl,h'⟩
  ·exact Ret.pure ⟨rfl,by dsimp only;omega,by dsimp only;omega,h'.fail⟩
  ·exact Ret.pure ⟨rfl,by dsimp only;omega,by dsimp only;omega,h'⟩
 | some x=>
  obtain ⟨i,l'⟩:=x
  rw [hm] at hr
  obtain ⟨a,rfl,h'⟩:=hr
  exact .pure ⟨rfl,rfl,h'⟩
end Ev
end
section
namespace Ev
open Go
def krU (L:Nat):List Nat→Nat
 | []=>0
 | n::r=>(if 0<n∧n≤L then 2^(15-n) else 0)+krU L r
theorem ZwP (L:Nat):∀ns,krU L ns≤Zbm ns
 | []=>Nat.le_refl _
 | n::r=>by
  have:=ZwP L r
  simp only [krU,Zbm]
  by_cases h:0<n∧n≤L
  ·rw [if_pos h,if_pos h.1];omega
  ·have:=Nat.two_pow_pos (15-n);rw [if_neg h];split<;>omega
theorem ZnP (L:Nat):∀ns:List Nat,krU (L+1) ns=krU L ns+ns.count (L+1)*2^(15-(L+1))
 | []=>by simp [krU]
 | n::r=>by
  have ih:=ZnP L r
  simp only [krU,List.count_cons,ih]
  by_cases h:n=L+1
  ·subst h
   rw [if_pos (by omega),if_neg (by omega)]
   simp only [beq_self_eq_true,if_true,Nat.add_mul,Nat.one_mul];omega
  ·have hb:(n==L+1)=false:=by simp [h]
   rw [hb]
   simp only [Bool.false_eq_true,if_false,Nat.add_zero]
   by_cases h2:0<n∧n≤L
   ·rw [if_pos h2,if_pos (by omega)];omega
   ·rw [if_neg h2,if_neg (by omega)];omega
theorem ZrT:∀ns:List Nat,krU 0 ns=0
 | []=>rfl
 | n::r=>by simp only [krU,ZrT r];rw [if_neg (by omega)]
theorem Zvh (ns:List Nat):∀L,L+1≤15→(base ns (L+1)+ns.count (L+1))*2^(15-(L+1))=krU (L+1) ns
 | 0,_=>by
  rw [ZnP,ZrT];simp [base]
 | L+1,h=>by
  have ih:=Zvh ns L (by omega)
  rw [ZnP,←ih]
  have e:base ns (L+1+1)=2*(base ns (L+1)+ns.count (L+1)):=rfl
  rw [e,Nat.add_mul,Nat.mul_comm 2,Nat.mul_assoc]
  congr 2
  rw [show 15-(L+1)=(15-(L+1+1))+1 by omega,Nat.pow_succ,Nat.mul_comm]
theorem Zvg (ns:List Nat) (hk:Zbm ns≤32768) (L:Nat) (h1:1≤L) (h15:L≤15):base ns L+ns.count L≤2^L:=by
 obtain ⟨l,rfl⟩:∃l,L=l+1:=⟨L-1,by omega⟩
 have h:=Zvh ns l h15
 have h2:=ZwP (l+1) ns
 have:(base ns (l+1)+ns.count (l+1))*2^(15-(l+1))≤2^(l+1)*2^(15-(l+1)):=by
  rw [h,←Nat.pow_add,show l+1+(15-(l+1))=15 by omega]
  omega
 exact Nat.le_of_mul_le_mul_right this (Nat.two_pow_pos _)
theorem Zn8 (ns:List Nat) (i:Nat) (hi:i<ns.length):(ns.take i).count (ns.getD i 0)<ns.count (ns.getD i 0):=by
 have h:=ZdW ns (ns.getD i 0) i hi
 rw [if_pos rfl] at h
 have:(ns.take (i+1)).count (ns.getD i 0)≤ns.count (ns.getD i 0):=(List.take_sublist _ _).count_le _
 omega
theorem Zp5 (ns:List Nat) (i:Nat) (hi:i<ns.length):ZcZ ns i<base ns (ns.getD i 0)+ns.count (ns.getD i 0):=by
 have:=Zn8 ns i hi
 unfold ZcZ;omega
theorem Zsg (ns:List Nat) (hk:Zbm ns≤32768) (h15:∀n∈ns,n≤15) (i:Nat) (hi:i<ns.length) (h0:0<ns.getD i 0):ZcZ ns i<2^(ns.getD i 0):=by
 have hm:ns.getD i 0≤15:=by rw [Zam hi];exact h15 _ (List.getElem_mem hi)
 have h1:=Zp5 ns i hi
 have h2:=Zvg ns hk _ h0 hm
 omega
theorem Zvf (ns:List Nat) (l:Nat) (h1:1≤l):∀d,(base ns l+ns.count l)*2^(d+1)≤base ns (l+d+1)
 | 0=>by
  obtain ⟨k,rfl⟩:∃k,l=k+1:=⟨l-1,by omega⟩
  have e:base ns (k+1+0+1)=2*(base ns (k+1)+ns.count (k+1)):=rfl
  rw [e];omega
 | d+1=>by
  have ih:=Zvf ns l h1 d
  obtain ⟨k,rfl⟩:∃k,l=k+1:=⟨l-1,by omega⟩
  have e:base ns (k+1+(d+1)+1)=2*(base ns (k+1+d+1)+ns.count (k+1+d+1)):=by
   rw [show k+1+(d+1)+1=(k+d+1)+2 by omega,show k+1+d+1=k+d+1+1 by omega];rfl
  rw [e,Nat.pow_succ,←Nat.mul_assoc];omega
theorem Zry (c L:Nat):∀l,l<L→(msb c L).drop l=c.testBit (L-1-l)::(msb c L).drop (l+1):=fun l hl=>by
 have hlen:(msb c L).length=L:=by simp [msb,Zai]
 rw [List.drop_eq_getElem_cons (by omega)]
 congr 1
 simp only [msb]
 rw [List.getElem_reverse]
 simp only [Zai]
 exact Zh2 c L _ (by omega)
theorem Zmd (ns:List Nat) (hk:Zbm ns≤32768) (h15:∀n∈ns,n≤15) (i:Nat) (hi:i<ns.length) (h0:0<ns.getD i 0) (rest:List Bool):∀(d l:Nat),l+d=ns.getD i 0→1≤l→
  Ze0 ns (16-l) l (ZcZ ns i/2^(d+1)) ((msb (ZcZ ns i) (ns.getD i 0)).drop (l-1)++rest)=some (i,rest)
 | 0,l,hl,h1=>by
  have hm:ns.getD i 0≤15:=by rw [Zam hi];exact h15 _ (List.getElem_mem hi)
  have hL:l=ns.getD i 0:=by omega
  rw [Zry _ _ (l-1) (by omega),show 16-l=(15-l)+1 by omega]
  simp only [List.cons_append,Ze0]
  have e:2*(ZcZ ns i/2^(0+1))+(Nat.testBit (ZcZ ns i) (ns.getD i 0-1-(l-1))).toNat=ZcZ ns i:=by
   rw [show ns.getD i 0-1-(l-1)=0 by omega,←ZdA];simp;omega
  rw [e,hL,Zn3 (Nat.le_refl _) hi h0]
  dsimp only
  rw [List.drop_eq_nil_of_le (by simp [msb,Zai];omega)];rfl
 | d+1,l,hl,h1=>by
  have hm:ns.getD i 0≤15:=by rw [Zam hi];exact h15 _ (List.getElem_mem hi)
  have ih:=Zmd ns hk h15 i hi h0 rest d (l+1) (by omega) (by omega)
  rw [Zry _ _ (l-1) (by omega),show 16-l=(16-(l+1))+1 by omega]
  simp only [List.cons_append,Ze0]
  have e:2*(ZcZ ns i/2^(d+1+1))+(Nat.testBit (ZcZ ns i) (ns.getD i 0-1-(l-1))).toNat=ZcZ ns i/2^(d+1):=by
   rw [show ns.getD i 0-1-(l-1)=d+1 by omega,←ZdA,Nat.pow_succ 2 (d+1),←Nat.div_div_eq_div_mul];omega
  rw [e]
  have hnone:Zey ns ns.length (ZcZ ns i/2^(d+1)) l=none:=by
   cases hf:Zey ns ns.length (ZcZ ns i/2^(d+1)) l with
   | none=>rfl
   | some j=>
    obtain ⟨hj,hj0,hjl,hjc⟩:=Zhb hf
    have t1:=Zp5 ns j hj
    rw [hjl,hjc] at t1
    have t2:=Zvf ns l h1 d
    have t3:base ns (l+d+1)≤ZcZ ns i:=by unfold ZcZ;rw [show ns.getD i 0=l+d+1 by omega];omega
    have:(ZcZ ns i/2^(d+1))+1≤base ns l+ns.count l:=t1
    have t4:=Nat.mul_le_mul_right (2^(d+1)) this
    have t5:=Nat.lt_mul_div_succ (ZcZ ns i) (Nat.two_pow_pos (d+1))
    rw [Nat.mul_comm] at t5
    omega
  rw [hnone]
  dsimp only
  rw [show l-1+1=l+1-1 by omega]
  exact ih
theorem Zud (ns:List Nat) (hk:Zbm ns≤32768) (h15:∀n∈ns,n≤15) (i:Nat) (hi:i<ns.length) (h0:0<ns.getD i 0) (rest:List Bool) :
  ZjI ns (some (msb (ZcZ ns i) (ns.getD i 0)++rest))=some (i,rest):=by
 have h:=Zmd ns hk h15 i hi h0 rest (ns.getD i 0-1) 1 (by omega) (by omega)
 have hlt:=Zsg ns hk h15 i hi h0
 rw [show ns.getD i 0-1+1=ns.getD i 0 by omega,Nat.div_eq_of_lt hlt] at h
 simpa [ZjI] using h
def ZhS (ns:List Nat) (i:Nat):List Bool:=msb ((ZbL ns).getD i 0) (ns.getD i 0)
theorem Zw2 (ns:List Nat) (h15:∀n∈ns,n≤15) (i:Nat) (hi:i<ns.length) (h0:0<ns.getD i 0):ZhS ns i=msb (ZcZ ns i) (ns.getD i 0):=by
 unfold ZhS;rw [Zf0 ns h15 i hi h0]
theorem Zp4 (ns:List Nat) (hk:Zbm ns≤32768) (h15:∀n∈ns,n≤15) (i:Nat) (hi:i<ns.length):(ZbL ns).getD i 0<2^(ns.getD i 0):=by
 by_cases h0:0<ns.getD i 0
 ·rw [Zf0 ns h15 i hi h0];exact Zsg ns hk h15 i hi h0
 ·have e:(ZbL ns).getD i 0=0:=by
   rw [Zam (by rw [ZcY];exact hi)]
   simp only [ZbL,ZeB,List.getElem_map,List.getElem_range]
   rw [if_neg (by omega)]
  rw [e];exact Nat.two_pow_pos _
theorem ZhU (ns:List Nat) (hk:Zbm ns≤32768) (h15:∀n∈ns,n≤15) (i:Nat) (hi:i<ns.length) (l:List Bool) (hl:l.length≤80000000) :
  Zfx (zs ns) (zs (ZbL ns)) (i:Int) (l.length:Int) (ZeL l)=some ((((l++ZhS ns i).length:Nat):Int),ZeL (l++ZhS ns i)):=by
 have hm:ns.getD i 0≤15:=by rw [Zam hi];exact h15 _ (List.getElem_mem hi)
 have hlt:=Zp4 ns hk h15 i hi
 have hp:2^(ns.getD i 0)≤2^15:=Nat.pow_le_pow_right (by omega) hm
 have ht:=Znq ((ZbL ns).getD i 0) (ns.getD i 0)
 unfold Zfx
 rw [Zag,Zag,ZcY,Zab _ (Zav hi),Zab _ (Zav hi),Int.toNat_natCast,ZaD,ZaD,Zq7 _ _ (by omega) hlt]
 simp only [Zae]
 rw [Zab _ (Zav hi),Zd7 _ _ (by omega) (by omega) l (by omega),ZoZ]
 rfl
theorem ZkM (ns:List Nat) (hk:Zbm ns≤32768) (h15:∀n∈ns,n≤15) (i:Nat) (hi:i<ns.length) (l:List Bool) (hl:l.length≤80000000) :
  ZlW (zs ns) (zs (ZbL ns)) (i:Int) (oL l:Int) ((l.length%8:Nat):Int) (oT l)=some ((oL (l++ZhS ns i):Int),(((l++ZhS ns i).length%8:Nat):Int),oT (l++ZhS ns i)):=by
 have hm:ns.getD i 0≤15:=by rw [Zam hi];exact h15 _ (List.getElem_mem hi)
 have hlt:=Zp4 ns hk h15 i hi
 have hp:2^(ns.getD i 0)≤2^15:=Nat.pow_le_pow_right (by omega) hm
 have ht:=Znq ((ZbL ns).getD i 0) (ns.getD i 0)
 unfold ZlW Zef
 rw [Zag,Zag,ZcY,Zab _ (Zav hi),Zab _ (Zav hi),Int.toNat_natCast,ZaD,ZaD,Zuw _ _ (by omega) (by omega)]
 simp only [Zae]
 rw [Zab _ (Zav hi)]
 simp only [Zae]
 rw [ZdP _ _ (by omega) (by omega) l (by omega),ZoZ]
 rfl
end Ev
end
section
namespace Ev
open Go
def Zp0 (k:Nat):Nat→List Int→List Int
 | 0,out=>out
 | n+1,out=>Zp0 k n (out++[out.getD (out.length-k) 0])
def Zoh (out:List Int) (l k:Nat):Option (List Int):=if l≤60∧k≤250∧k≤out.length then some (Zp0 k l out) else none
theorem ZjP (k:Nat):∀n out,(Zp0 k n out).length=out.length+n
 | 0,out=>rfl
 | n+1,out=>by rw [Zp0,ZjP k n];simp;omega
theorem ZwW (b:Int) (l k:Nat) (hk:1≤k) (hl:l≤1000):∀(j i:Nat) (out:List Int),i+j=l→k≤out.length→out.length+j≤1000000→
  add.l0 (j+1) ((l:Int),(i:Int),out,b,(l:Int),(k:Int))=some (Zp0 k j out)
 | 0,i,out,hi,h1,h2=>by
  rw [add.l0.succ];simp only [add.l0.step]
  rw [Za0 (by omega)];rfl
 | j+1,i,out,hi,h1,h2=>by
  rw [add.l0.succ];simp only [add.l0.step]
  rw [ZaZ (by omega),cond_true,Zaf (n:=(out.length:Int)-k) (by omega) (by omega),show (out.length:Int)-k=((out.length-k:Nat):Int) by omega,
   Zab _ (Zav (by omega)),Int.toNat_natCast,Zad (by simp;omega),Zaf (by omega) (by omega),show (i:Int)+1=((i+1:Nat):Int) by omega,
   ZwW b l k hk hl j (i+1) _ (by omega) (by simp;omega) (by simp;omega)]
  rfl
theorem ZrO (b:Int) (l k:Nat) (hk:1≤k) (hl:l≤1000):∀(j i:Nat) (out:List Int),i+j=l→k≤out.length→out.length+j≤1000000→
  Zee.l0 (j+1) ((i:Int),out,b,(l:Int),(k:Int))=some (Zp0 k j out)
 | 0,i,out,hi,h1,h2=>by
  rw [Zee.l0.succ];simp only [Zee.l0.step]
  rw [Za0 (by omega)];rfl
 | j+1,i,out,hi,h1,h2=>by
  rw [Zee.l0.succ];simp only [Zee.l0.step]
  rw [ZaZ (by omega),cond_true,Zaf (n:=(out.length:Int)-k) (by omega) (by omega),show (out.length:Int)-k=((out.length-k:Nat):Int) by omega,
   Zab _ (Zav (by omega)),Int.toNat_natCast,Zad (by simp;omega),Zaf (by omega) (by omega),show (i:Int)+1=((i+1:Nat):Int) by omega,
   ZrO b l k hk hl j (i+1) _ (by omega) (by simp;omega) (by simp;omega)]
  rfl
theorem Zj3 (a b:Nat):ZjH (a:Int) (b:Int)=((min a b:Nat):Int):=by
 unfold ZjH
 by_cases h:(b:Int)<(a:Int)
 ·rw [if_pos h];omega
 ·rw [if_neg h];omega
theorem ZxD (l k:Nat) (out:List Int) (hl:3≤l) (hk:1≤k) (ho:out.length≤100000) :
  add 0 (l:Int) (k:Int) out=some ((Zoh out l k).isSome,(Zoh out l k).getD []):=by
 unfold add Zoh
 rw [show (250:Int)=((250:Nat):Int) from rfl,Zj3]
 simp only [Zdm,Zae]
 rw [show (((l:Nat):Int)==0)=false by simp;omega,show ((0:Int) != 0)=false from rfl]
 simp only [cond_false]
 by_cases h60:l≤60
 ·rw [show decide ((3:Int)≤(l:Int)∧(l:Int)≤60)=true by simp;omega]
  simp only [Bool.not_true,cond_false,Zae]
  by_cases hb:k≤250∧k≤out.length
  ·rw [show decide ((1:Int)≤(k:Int)∧(k:Int)≤((min 250 out.length:Nat):Int))=true by simp;omega,if_pos ⟨h60,hb⟩]
   simp only [Bool.not_true,cond_false]
   rw [Int.sub_zero,Int.toNat_natCast]
   have:=ZwW 0 l k hk (by omega) l 0 out (by omega) hb.2 (by omega)
   rw [show ((0:Nat):Int)=0 from rfl] at this
   rw [this];rfl
  ·rw [show decide ((1:Int)≤(k:Int)∧(k:Int)≤((min 250 out.length:Nat):Int))=false by simp;omega,if_neg (fun e=>hb e.2)]
   rfl
 ·rw [show decide ((3:Int)≤(l:Int)∧(l:Int)≤60)=false by simp;omega,if_neg (fun e=>h60 e.1)]
  rfl
theorem Zut (l k:Nat) (out:List Int) (hl:3≤l) (hk:1≤k) (ho:out.length≤100000) :
  Zee 0 (l:Int) (k:Int) out=some ((Zoh out l k).isSome,(Zoh out l k).getD out):=by
 unfold Zee Zoh
 simp only [Zj6,Zae]
 rw [show (((l:Nat):Int)==0)=false by simp;omega,show ((0:Int) != 0)=false from rfl]
 simp only [cond_false]
 by_cases h60:l≤60
 ·rw [show decide ((3:Int)≤(l:Int)∧(l:Int)≤60)=true by simp;omega]
  simp only [Bool.not_true,cond_false,Zae]
  by_cases h2:k≤250
  ·rw [show decide ((1:Int)≤(k:Int)∧(k:Int)≤250)=true by simp;omega]
   simp only [Bool.not_true,cond_false,Zae]
   by_cases hb:k≤out.length
   ·rw [show decide ((k:Int)>(out.length:Int))=false by simp;omega,if_pos ⟨h60,h2,hb⟩]
    simp only [cond_false]
    rw [Int.sub_zero,Int.toNat_natCast]
    have:=ZrO 0 l k hk (by omega) l 0 out (by omega) hb (by omega)
    rw [show ((0:Nat):Int)=0 from rfl] at this
    rw [this];rfl
   ·rw [show decide ((k:Int)>(out.length:Int))=true by simp;omega,if_neg (fun e=>hb e.2.2)];rfl
  ·rw [show decide ((1:Int)≤(k:Int)∧(k:Int)≤250)=false by simp;omega,if_neg (fun e=>h2 e.2.1)];rfl
 ·rw [show decide ((3:Int)≤(l:Int)∧(l:Int)≤60)=false by simp;omega,if_neg (fun e=>h60 e.1)];rfl
inductive Tk where
 | lit (c:Nat)
 | far (l k:Nat)
def Tk.z:Tk→Int×Int×Int
 | .lit c=>((c:Int),0,0)
 | .far l k=>(0,(l:Int),(k:Int))
def agM (s:Str) (a k:Nat):Nat→Nat→Nat
 | 0,n=>n
 | f+1,n=>if a+n<s.length∧n<60∧s.getD (a+n) 0=s.getD (a+n-k) 0 then agM s a k f (n+1) else n
def Zcs (s:Str) (a:Nat):Nat→Nat×Nat
 | 0=>(0,0)
 | m+1=>if (Zcs s a m).1<agM s a (m+1) 60 0 then (agM s a (m+1) 60 0,m+1) else Zcs s a m
def Ziz (s:Str) (a:Nat):Tk:=if (Zcs s a (min 250 a)).1<3 then .lit (s.getD a 0).toNat else .far (Zcs s a (min 250 a)).1 (Zcs s a (min 250 a)).2
def Tk.long:Tk→Nat
 | .lit _=>1
 | .far l _=>l
def Zep (s:Str):Nat→Nat→List Tk
 | 0,_=>[]
 | f+1,a=>if a<s.length then Ziz s a::Zep s f (a+(Ziz s a).long) else []
theorem Zvj (s:Str) (a k:Nat):∀f n,n≤60→n≤agM s a k f n∧agM s a k f n≤60
 | 0,n,h=>⟨Nat.le_refl _,h⟩
 | f+1,n,h=>by
  rw [agM]
  by_cases c:a+n<s.length∧n<60∧s.getD (a+n) 0=s.getD (a+n-k) 0
  ·rw [if_pos c];have:=Zvj s a k f (n+1) (by omega);omega
  ·rw [if_neg c];omega
theorem Zso (s:Str) (a k:Nat):∀f n i,n≤i→i<agM s a k f n→a+i<s.length∧s.getD (a+i) 0=s.getD (a+i-k) 0
 | 0,n,i,h1,h2=>by simp only [agM] at h2;omega
 | f+1,n,i,h1,h2=>by
  rw [agM] at h2
  by_cases c:a+n<s.length∧n<60∧s.getD (a+n) 0=s.getD (a+n-k) 0
  ·rw [if_pos c] at h2
   by_cases e:i=n
   ·subst e;exact ⟨c.1,c.2.2⟩
   ·exact Zso s a k f (n+1) i (by omega) h2
  ·rw [if_neg c] at h2;omega
theorem Zjp (s:Str) (a:Nat):∀m,(Zcs s a m).1≤60∧(Zcs s a m).2≤m∧(0<(Zcs s a m).1→1≤(Zcs s a m).2∧(Zcs s a m).1=agM s a (Zcs s a m).2 60 0)
 | 0=>by simp [Zcs]
 | m+1=>by
  have ih:=Zjp s a m
  have hl:=Zvj s a (m+1) 60 0 (by omega)
  rw [Zcs]
  by_cases c:(Zcs s a m).1<agM s a (m+1) 60 0
  ·rw [if_pos c];exact ⟨hl.2,Nat.le_refl _,fun _=>⟨Nat.le_add_left _ _,rfl⟩⟩
  ·rw [if_neg c];exact ⟨ih.1,by omega,ih.2.2⟩
theorem u8_eq (x y:UInt8):(((x.toNat:Int))==((y.toNat:Int)))=decide (x=y):=by
 by_cases h:x=y
 ·subst h;simp
 ·have:x.toNat≠y.toNat:=fun e=>h (UInt8.toNat_inj.1 e)
  rw [decide_eq_false h];simp;omega
theorem Zni {α:Type} (s:Str) (hs:s.length≤1000) (a k n:Nat) (ha:a≤1000) (hk:k≤a) (hn:n<60) (x y:Option α) :
  ((bif decide (w64 ((a:Int)+(n:Int))<(s.length:Int)) then (need (decide (0≤(w64 ((a:Int)+(n:Int))))&&decide ((w64 ((a:Int)+(n:Int)))<s.length)) (need (decide (0≤(w64 ((w64 ((a:Int)+(n:Int)))-(k:Int))))&&decide ((w64 ((w64 ((a:Int)+(n:Int)))-(k:Int)))<s.length)) (some (((s.getD (w64 ((a:Int)+(n:Int))).toNat 0).toNat:Int)==((s.getD (w64 ((w64 ((a:Int)+(n:Int)))-(k:Int))).toNat 0).toNat:Int))))) else
 (some false)).bind fun c=>bif c then x else y)=if a+n<s.length∧n<60∧s.getD (a+n) 0=s.getD (a+n-k) 0 then x else y:=by
 have e1:w64 ((a:Int)+(n:Int))=((a+n:Nat):Int):=by rw [Zaf]<;>omega
 have e2:w64 (((a+n:Nat):Int)-(k:Int))=((a+n-k:Nat):Int):=by rw [Zaf]<;>omega
 rw [e1,e2]
 by_cases h1:a+n<s.length
 ·rw [Zab _ (Zav h1),Zab _ (Zav (by omega)),decide_eq_true (show (((a+n:Nat):Int)<(s.length:Int)) by omega),Int.toNat_natCast,Int.toNat_natCast,u8_eq,cond_true]
  simp only [Zae,Zbj]
  by_cases h2:s.getD (a+n) 0=s.getD (a+n-k) 0
  ·rw [if_pos h2,if_pos ⟨h1,hn,h2⟩]
  ·rw [if_neg h2,if_neg (fun e=>h2 e.2.2)]
 ·rw [if_neg (fun e=>h1 e.1),decide_eq_false (show ¬(((a+n:Nat):Int)<(s.length:Int)) by omega)];rfl
theorem ZmM (s:Str) (hs:s.length≤1000) (a k:Nat) (ha:a≤1000) (hk:k≤a):∀(j f n:Nat),n+j=60→j≤f→ZbV.l0 (f+1) (s,(a:Int),(k:Int),(n:Int))=some (agM s a k j n:Int)
 | 0,f,n,h,hf=>by
  rw [ZbV.l0.succ];simp only [ZbV.l0.step,agM]
  have hn:n=60:=by omega
  subst hn
  rw [show decide (((60:Nat):Int)<60)=false by decide]
  simp only [cond_false]
  cases decide (w64 ((a:Int)+((60:Nat):Int))<(s.length:Int))<;>rfl
 | j+1,0,n,h,hf=>by omega
 | j+1,f+1,n,h,hf=>by
  rw [ZbV.l0.succ];simp only [ZbV.l0.step]
  rw [agM,decide_eq_true (show ((n:Int)<60) by omega),cond_true,Zni s hs a k n ha hk (by omega),Zaf (by omega) (by omega),show (n:Int)+1=((n+1:Nat):Int) by omega,
   ZmM s hs a k ha hk j f (n+1) (by omega) (by omega)]
  split<;>rfl
theorem Zs2 (s:Str) (hs:s.length≤1000) (a k:Nat) (ha:a≤1000) (hk:k≤a):ZbV s (a:Int) (k:Int)=some (agM s a k 60 0:Int):=by
 unfold ZbV
 have h:=ZmM s hs a k ha hk 60 61 0 rfl (by omega)
 rw [show ((0:Nat):Int)=0 from rfl] at h
 rw [h];rfl
theorem Zkm (s:Str) (hs:s.length≤1000) (a k:Nat) (ha:a≤1000) (hk:k≤a) (out:List (Int×Int×Int)) (o3 o4 o5:Int):∀(j n:Nat),n+j=60→
  Zap.l0 (j+1) (s,(a:Int),(k:Int),(n:Int),out,o3,o4,o5)=some (s,(a:Int),(k:Int),(agM s a k j n:Int),out,o3,o4,o5)
 | 0,n,h=>by
  rw [Zap.l0.succ];simp only [Zap.l0.step,agM]
  have hn:n=60:=by omega
  subst hn
  rfl
 | j+1,n,h=>by
  rw [Zap.l0.succ];simp only [Zap.l0.step]
  rw [agM,decide_eq_true (show ((n:Int)<60) by omega),cond_true,Zni s hs a k n ha hk (by omega),Zaf (by omega) (by omega),show (n:Int)+1=((n+1:Nat):Int) by omega,
   Zkm s hs a k ha hk out o3 o4 o5 j (n+1) (by omega)]
  split<;>rfl
def Zob (c:Int) (b:Nat×Nat):Int×Int×Int:=if b.1<3 then (c,0,0) else (0,(b.1:Int),(b.2:Int))
theorem Ztl (c:Int) (b:Nat×Nat) (n k:Nat):(Zob c (if b.1<n then (n,k) else b))=if 3≤n∧(Zob c b).2.1<(n:Int) then (0,(n:Int),(k:Int)) else Zob c b:=by
 unfold Zob
 by_cases h1:b.1<n<;>by_cases h2:b.1<3<;>by_cases h3:n<3 <;>
  simp only [h1,h2,h3,if_true,if_false]<;>(first | (exfalso;omega) | (rw [if_pos (by simp;omega)]) | (rw [if_neg (by simp;omega)]) | rfl)
theorem Zf5 (s:Str) (hs:s.length≤1000) (a:Nat) (ha:a≤1000) (out:List (Int×Int×Int)) (c:Int):∀(j m:Nat),m+j=min 250 a→∀(b:Int×Int×Int),b=Zob c (Zcs s a m)→
  Zap.l1 (j+1) (s,(a:Int),((m+1:Nat):Int),out,b)=some (s,(a:Int),out,Zob c (Zcs s a (min 250 a)))
 | 0,m,h,(b1,b2,b3),hb=>by
  have hm:m=min 250 a:=by omega
  subst hm
  rw [Zap.l1.succ];simp only [Zap.l1.step]
  rw [show (250:Int)=((250:Nat):Int) from rfl,Zj3,decide_eq_false (by omega),hb];rfl
 | j+1,m,h,(b1,b2,b3),hb=>by
  rw [Zap.l1.succ];simp only [Zap.l1.step]
  have h0:=Zkm s hs a (m+1) ha (by omega) out b1 b2 b3 60 0 (by omega)
  rw [show ((0:Nat):Int)=0 from rfl] at h0
  rw [show (250:Int)=((250:Nat):Int) from rfl,Zj3,decide_eq_true (by omega),cond_true,show ((60:Int)-0).toNat=60 from rfl,h0]
  have ha2:=Zvj s a (m+1) 60 0 (by omega)
  simp only [Zae]
  rw [Zaf (by omega) (by omega),show ((m+1:Nat):Int)+1=((m+1+1:Nat):Int) by omega]
  have hn:=Ztl c (Zcs s a m) (agM s a (m+1) 60 0) (m+1)
  have e:Zcs s a (m+1)=if (Zcs s a m).1<agM s a (m+1) 60 0 then (agM s a (m+1) 60 0,m+1) else Zcs s a m:=rfl
  rw [←e,←hb] at hn
  dsimp only at hn
  by_cases h3:3≤agM s a (m+1) 60 0
  ·rw [show decide (((agM s a (m+1) 60 0:Nat):Int)≥3)=true by simp;omega]
   simp only [cond_true,Zae,Zbj]
   by_cases h4:b2<((agM s a (m+1) 60 0:Nat):Int)
   ·rw [if_pos ⟨h3,h4⟩] at hn
    rw [if_pos (show ((agM s a (m+1) 60 0:Nat):Int)>b2 from h4)]
    exact Zf5 s hs a ha out c j (m+1) (by omega) _ hn.symm
   ·rw [if_neg (fun e=>h4 e.2)] at hn
    rw [if_neg (show ¬((agM s a (m+1) 60 0:Nat):Int)>b2 from h4)]
    exact Zf5 s hs a ha out c j (m+1) (by omega) _ hn.symm
  ·rw [show decide (((agM s a (m+1) 60 0:Nat):Int)≥3)=false by simp;omega]
   rw [if_neg (fun e=>h3 e.1)] at hn
   simp only [cond_false,Zae]
   exact Zf5 s hs a ha out c j (m+1) (by omega) _ hn.symm
theorem Zve (s:Str) (a:Nat):Zob ((s.getD a 0).toNat:Int) (Zcs s a (min 250 a))=(Ziz s a).z:=by
 unfold Zob Ziz
 split<;>rfl
theorem ZvX (x:Int) (h:1≤x):Zmx x 1=x:=by
 unfold Zmx;split<;>omega
theorem Zko (s:Str) (a:Nat):1≤(Ziz s a).long∧(Ziz s a).long≤60∧Zmx (Ziz s a).z.2.1 1=((Ziz s a).long:Int):=by
 have h:=Zjp s a (min 250 a)
 unfold Ziz
 by_cases c:(Zcs s a (min 250 a)).1<3
 ·rw [if_pos c];exact ⟨Nat.le_refl _,by simp [Tk.long],by simp [Tk.z,Tk.long,Zmx]⟩
 ·rw [if_neg c]
  exact ⟨by simp only [Tk.long];omega,h.1,ZvX _ (by simp only [Tk.z];omega)⟩
theorem Zkl (s:Str) (hs:s.length≤300):∀(j a:Nat),s.length≤a+j→a≤600→∀out:List (Int×Int×Int),out.length≤a→
  Zap.l2 (j+1) (s,(a:Int),out)=some (out++(Zep s j a).map Tk.z)
 | 0,a,h,ha,out,ho=>by
  rw [Zap.l2.succ];simp only [Zap.l2.step]
  rw [Za0 (by omega)];simp [Zep]
 | j+1,a,h,ha,out,ho=>by
  rw [Zap.l2.succ];simp only [Zap.l2.step]
  by_cases hlt:a<s.length
  ·have h1:=Zf5 s (by omega) a (by omega) out ((s.getD a 0).toNat:Int) (min 250 a) 0 (by omega) (((s.getD a 0).toNat:Int),0,0) (by simp [Zob,Zcs])
   rw [show ((0+1:Nat):Int)=1 from rfl] at h1
   have hb:(s.getD a 0).toNat<256:=UInt8.toNat_lt _
   have hm:((ZjH 250 (a:Int))-1).toNat+2=min 250 a+1∨(min 250 a=0∧((ZjH 250 (a:Int))-1).toNat+2=2):=by
    rw [show (250:Int)=((250:Nat):Int) from rfl,Zj3];omega
   rw [ZaZ hlt,cond_true,Zab _ ZaE,Int.toNat_natCast,Zaf (n:=((s.getD a 0).toNat:Int)) (by omega) (by omega)]
   have h1':Zap.l1 (((ZjH 250 (a:Int))-1).toNat+2) (s,(a:Int),1,out,((s.getD a 0).toNat:Int),0,0)=some (s,(a:Int),out,(Ziz s a).z):=by
    rw [←Zve]
    rcases hm with e | ⟨e0,e⟩
    ·rw [e];exact h1
    ·rw [e]
     have a0:a=0:=by omega
     subst a0
     rfl
   rw [h1']
   obtain ⟨t1,t2,t3⟩:=Zko s a
   rcases hz:(Ziz s a).z with ⟨z1,z2,z3⟩
   rw [hz] at t3
   simp only [Zae]
   dsimp only at t3
   rw [Zad (by simp;omega),t3,Zaf (by omega) (by omega),show (a:Int)+((Ziz s a).long:Int)=((a+(Ziz s a).long:Nat):Int) by omega,
    Zkl s hs j (a+(Ziz s a).long) (by omega) (by omega) _ (by simp;omega)]
   rw [Zep,if_pos hlt,List.map_cons,hz];simp
  ·rw [Za0 (by omega),Zep,if_neg hlt];simp
def Zhi (s:Str):List Tk:=Zep s s.length 0
theorem Zkn (s:Str) (hs:s.length≤300):Zap s=some ((Zhi s).map Tk.z):=by
 unfold Zap
 rw [decide_eq_false (by omega),cond_false,ZaJ]
 have h:=Zkl s hs s.length 0 (by omega) (by omega) [] (by simp)
 rw [show ((0:Nat):Int)=0 from rfl] at h
 rw [h];simp [Zhi]
theorem ZhH (s:Str) (hs:s.length≤1000) (a:Nat) (ha:a≤1000) (out:List (Int×Int×Int)):∀(j f m:Nat),m+j=min 250 a→j≤f→∀(l k:Int),l=((Zcs s a m).1:Int)→k=((Zcs s a m).2:Int)→
  ZaF.l0 (f+1) (s,(a:Int),l,k,((m+1:Nat):Int),out)=some (s,(a:Int),((Zcs s a (min 250 a)).1:Int),((Zcs s a (min 250 a)).2:Int),out)
 | 0,f,m,h,hf,l,k,hl,hk=>by
  have hm:m=min 250 a:=by omega
  rw [ZaF.l0.succ];simp only [ZaF.l0.step]
  subst hl hk
  by_cases h1:m+1≤250
  ·rw [decide_eq_true (show (((m+1:Nat):Int)≤250) by omega),decide_eq_false (show ¬(((m+1:Nat):Int)≤(a:Int)) by omega),hm];rfl
  ·rw [decide_eq_false (show ¬(((m+1:Nat):Int)≤250) by omega),hm];rfl
 | j+1,0,m,h,hf,l,k,hl,hk=>by omega
 | j+1,f+1,m,h,hf,l,k,hl,hk=>by
  rw [ZaF.l0.succ];simp only [ZaF.l0.step]
  rw [decide_eq_true (show (((m+1:Nat):Int)≤250) by omega),decide_eq_true (show (((m+1:Nat):Int)≤(a:Int)) by omega)]
  simp only [cond_true,Zae]
  rw [Zs2 s hs a (m+1) ha (by omega)]
  simp only [Zae,Zbj]
  rw [Zaf (by omega) (by omega),show ((m+1:Nat):Int)+1=((m+1+1:Nat):Int) by omega]
  have e:Zcs s a (m+1)=if (Zcs s a m).1<agM s a (m+1) 60 0 then (agM s a (m+1) 60 0,m+1) else Zcs s a m:=rfl
  subst hl hk
  by_cases c:(Zcs s a m).1<agM s a (m+1) 60 0
  ·rw [if_pos (by omega)]
   rw [if_pos c] at e
   exact ZhH s hs a ha out j f (m+1) (by omega) (by omega) _ _ (by rw [e]) (by rw [e])
  ·rw [if_neg (by omega)]
   rw [if_neg c] at e
   exact ZhH s hs a ha out j f (m+1) (by omega) (by omega) _ _ (by rw [e]) (by rw [e])
theorem ZhG (s:Str) (hs:s.length≤300):∀(j a:Nat),s.length≤a+j→a≤600→∀out:List (Int×Int×Int),out.length≤a→
  ZaF.l1 (j+1) (s,(a:Int),out)=some (out++(Zep s j a).map Tk.z)
 | 0,a,h,ha,out,ho=>by
  rw [ZaF.l1.succ];simp only [ZaF.l1.step]
  rw [Za0 (by omega)];simp [Zep]
 | j+1,a,h,ha,out,ho=>by
  rw [ZaF.l1.succ];simp only [ZaF.l1.step]
  by_cases hlt:a<s.length
  ·have h1:=ZhH s (by omega) a (by omega) out (min 250 a) 250 0 (by omega) (by omega) 0 0 (by simp [Zcs]) (by simp [Zcs])
   rw [show ((0+1:Nat):Int)=1 from rfl] at h1
   have hb:(s.getD a 0).toNat<256:=UInt8.toNat_lt _
   obtain ⟨t1,t2,t3⟩:=Zko s a
   rw [ZaZ hlt,cond_true,show ((250:Int)-1).toNat+2=251 from rfl,h1]
   simp only [Zae,Zbj]
   rw [Zep,if_pos hlt,List.map_cons]
   by_cases c:(Zcs s a (min 250 a)).1<3
   ·have et:Ziz s a=.lit (s.getD a 0).toNat:=by unfold Ziz;rw [if_pos c]
    rw [if_pos (by omega),Zab _ (Zav hlt),Zad (by simp;omega),Int.toNat_natCast,Zaf (n:=((s.getD a 0).toNat:Int)) (by omega) (by omega),Zaf (by omega) (by omega),
     show (a:Int)+1=((a+1:Nat):Int) by omega,ZhG s hs j (a+1) (by omega) (by omega) _ (by simp;omega),et]
    simp [Tk.z,Tk.long]
   ·have et:Ziz s a=.far (Zcs s a (min 250 a)).1 (Zcs s a (min 250 a)).2:=by unfold Ziz;rw [if_neg c]
    rw [et] at t1 t2
    simp only [Tk.long] at t1 t2
    rw [if_neg (by omega),Zad (by simp;omega),Zaf (by omega) (by omega),
     show (a:Int)+((Zcs s a (min 250 a)).1:Int)=((a+(Zcs s a (min 250 a)).1:Nat):Int) by omega,ZhG s hs j (a+(Zcs s a (min 250 a)).1) (by omega) (by omega) _ (by simp;omega),et]
    simp [Tk.z,Tk.long]
  ·rw [Za0 (by omega),Zep,if_neg hlt];simp
theorem Zk0 (s:Str) (hs:s.length≤300):ZaF s=some ((Zhi s).map Tk.z):=by
 unfold ZaF
 rw [ZaJ]
 have h:=ZhG s hs s.length 0 (by omega) (by omega) [] (by simp)
 rw [show ((0:Nat):Int)=0 from rfl] at h
 rw [h];simp [Zhi]
end Ev
end
section
namespace Ev
open Go
def ints (s:Str):List Int:=s.map fun c=>(c.toNat:Int)
theorem Zdi (s:Str):(ints s).length=s.length:=by simp [ints]
theorem ZuD (s:Str) (i:Nat):(ints s).getD i 0=((s.getD i 0).toNat:Int):=by
 by_cases h:i<s.length
 ·rw [Zam (by rw [Zdi];exact h),Zam h];simp [ints]
 ·simp [ints,List.getD,Nat.le_of_not_lt h]
theorem Zk6 (s t:Str):ints (s++t)=ints s++ints t:=by simp [ints]
theorem ZiG {α:Type} (s:List α) (n:Nat) (d:α) (h:n<s.length):s.take (n+1)=s.take n++[s.getD n d]:=by
 rw [List.take_succ_eq_append_getElem h,Zam h]
theorem ZtA {α:Type} (s:List α) (n i:Nat) (d:α) (h:i<n):(s.take n).getD i d=s.getD i d:=by
 simp [List.getD,List.getElem?_take,h]
theorem ZpZ (s:Str) (a l k:Nat) (hk:1≤k) (hka:k≤a) (h:∀i,i<l→a+i<s.length∧s.getD (a+i) 0=s.getD (a+i-k) 0):∀(j i:Nat),i+j=l→
  Zp0 k j (ints (s.take (a+i)))=ints (s.take (a+l))
 | 0,i,hi=>by rw [show i=l by omega];rfl
 | j+1,i,hi=>by
  obtain ⟨h1,h2⟩:=h i (by omega)
  rw [Zp0,Zdi,List.length_take,Nat.min_eq_left (by omega),ZuD,ZtA _ _ _ _ (by omega),←h2]
  have e:ints (s.take (a+i))++[((s.getD (a+i) 0).toNat:Int)]=ints (s.take (a+(i+1))):=by
   rw [←Nat.add_assoc,ZiG s (a+i) 0 h1,Zk6];rfl
  rw [e]
  exact ZpZ s a l k hk hka h j (i+1) (by omega)
theorem Zrg {s:Str} {a c:Nat} (h:Ziz s a=.lit c):c=(s.getD a 0).toNat:=by
 unfold Ziz at h
 split at h
 ·exact (Tk.lit.inj h).symm
 ·cases h
theorem Zrh {s:Str} {a l k:Nat} (h:Ziz s a=.far l k) (ha:a≤s.length):3≤l∧l≤60∧1≤k∧k≤250∧a+l≤s.length∧Zoh (ints (s.take a)) l k=some (ints (s.take (a+l))):=by
 have hb:=Zjp s a (min 250 a)
 unfold Ziz at h
 by_cases c:(Zcs s a (min 250 a)).1<3
 ·rw [if_pos c] at h;cases h
 ·rw [if_neg c] at h
  obtain ⟨rfl,rfl⟩:=Tk.far.inj h
  obtain ⟨h1,h2,h3⟩:=hb
  obtain ⟨h4,h5⟩:=h3 (by omega)
  have hs:∀i,i<(Zcs s a (min 250 a)).1→a+i<s.length∧s.getD (a+i) 0=s.getD (a+i-(Zcs s a (min 250 a)).2) 0:=fun i hi=>
   Zso s a (Zcs s a (min 250 a)).2 60 0 i (Nat.zero_le _) (by rw [←h5];exact hi)
  have hlast:=(hs ((Zcs s a (min 250 a)).1-1) (by omega)).1
  refine ⟨by omega,h1,h4,by omega,by omega,?_⟩
  unfold Zoh
  rw [Zdi,List.length_take,Nat.min_eq_left ha,if_pos ⟨h1,by omega,by omega⟩]
  have:=ZpZ s a _ _ h4 (by omega) hs (Zcs s a (min 250 a)).1 0 (by omega)
  rw [Nat.add_zero] at this
  rw [this]
def Zb9:List Nat:=[0,0,0,0,0,0,0,0,1,1,1,1,2,2,2,2,3,3,3,3,4,4,4,4,5,5,5,5]
def Zay:List Nat:=[3,4,5,6,7,8,9,10,11,13,15,17,19,23,27,31,35,43,51,59,67,83,99,115,131,163,195,227]
def ZcN:List Nat:=[0,0,0,0,1,1,2,2,3,3,4,4,5,5,6,6,7,7,8,8,9,9,10,10,11,11,12,12,13,13]
def ZaL:List Nat:=[1,2,3,4,5,7,9,13,17,25,33,49,65,97,129,193,257,385,513,769,1025,1537,2049,3073,4097,6145,8193,12289,16385,24577]
theorem ZiY:ZbI=some (zs Zay,zs Zb9):=by kernel_rfl
theorem Zjq:ZbK=some (zs ZaL,zs ZcN):=by kernel_rfl
theorem ZeO:Za4=some (zs Zb9):=by kernel_rfl
theorem ZeP:Za5=some (zs ZcN):=by kernel_rfl
theorem ZhE:Zcv (zs Zb9) 3=some (zs Zay):=by kernel_rfl
theorem ZhF:Zcv (zs ZcN) 1=some (zs ZaL):=by kernel_rfl
def Zlk:List Nat:=List.replicate 144 8++List.replicate 112 9++List.replicate 24 7++List.replicate 8 8
def Zl1:List Nat:=List.replicate 32 5
theorem ZjL:Zbg=some (zs Zlk,zs Zl1):=by kernel_rfl
theorem ZmK:ZcA=some (zs Zlk):=by kernel_rfl
theorem ZmL:ZcB=some (zs Zl1):=by kernel_rfl
def ZbG (F:List Nat) (n:Nat):Nat:=(F.filter fun x=>decide (x≤n)).length-1
def chkL:Bool:=(List.range 58).all fun i=>
 (ZbY (zs Zay) (zs Zb9) ((i+3:Nat):Int)==some ((ZbG Zay (i+3):Nat):Int))&&(Zeu (zs Zay) ((i+3:Nat):Int)==some ((ZbG Zay (i+3):Nat):Int))&&
 decide (ZbG Zay (i+3)<28)&&decide (Zay.getD (ZbG Zay (i+3)) 0≤i+3)&&decide (i+3-Zay.getD (ZbG Zay (i+3)) 0<2^Zb9.getD (ZbG Zay (i+3)) 0)
def chkD:Bool:=(List.range 250).all fun i=>
 (ZbY (zs ZaL) (zs ZcN) ((i+1:Nat):Int)==some ((ZbG ZaL (i+1):Nat):Int))&&(Zeu (zs ZaL) ((i+1:Nat):Int)==some ((ZbG ZaL (i+1):Nat):Int))&&
 decide (ZbG ZaL (i+1)<30)&&decide (ZaL.getD (ZbG ZaL (i+1)) 0≤i+1)&&decide (i+1-ZaL.getD (ZbG ZaL (i+1)) 0<2^ZcN.getD (ZbG ZaL (i+1)) 0)
theorem Zxv:chkL=true:=by kernel_rfl
theorem Zxw:chkD=true:=by kernel_rfl
theorem ZeI (n:Nat) (h1:3≤n) (h2:n≤60):ZbY (zs Zay) (zs Zb9) (n:Int)=some ((ZbG Zay n:Nat):Int)∧Zeu (zs Zay) (n:Int)=some ((ZbG Zay n:Nat):Int)∧
  ZbG Zay n<28∧Zay.getD (ZbG Zay n) 0≤n∧n-Zay.getD (ZbG Zay n) 0<2^Zb9.getD (ZbG Zay n) 0:=by
 have h:=List.all_eq_true.1 Zxv (n-3) (List.mem_range.2 (by omega))
 rw [show n-3+3=n by omega] at h
 simp only [Bool.and_eq_true,beq_iff_eq,decide_eq_true_eq] at h
 exact ⟨h.1.1.1.1,h.1.1.1.2,h.1.1.2,h.1.2,h.2⟩
theorem Zfg (n:Nat) (h1:1≤n) (h2:n≤250):ZbY (zs ZaL) (zs ZcN) (n:Int)=some ((ZbG ZaL n:Nat):Int)∧Zeu (zs ZaL) (n:Int)=some ((ZbG ZaL n:Nat):Int)∧
  ZbG ZaL n<30∧ZaL.getD (ZbG ZaL n) 0≤n∧n-ZaL.getD (ZbG ZaL n) 0<2^ZcN.getD (ZbG ZaL n) 0:=by
 have h:=List.all_eq_true.1 Zxw (n-1) (List.mem_range.2 (by omega))
 rw [show n-1+1=n by omega] at h
 simp only [Bool.and_eq_true,beq_iff_eq,decide_eq_true_eq] at h
 exact ⟨h.1.1.1.1,h.1.1.1.2,h.1.1.2,h.1.2,h.2⟩
theorem Zh5 (k:Nat):Zb9.getD k 0≤5:=by
 by_cases h:k<28
 ·have:(List.range 28).all (fun k=>decide (Zb9.getD k 0≤5))=true:=by decide
  simpa using List.all_eq_true.1 this k (List.mem_range.2 h)
 ·simp [List.getD,show Zb9.length=28 from rfl,Nat.le_of_not_lt h]
theorem Ziw (k:Nat):ZcN.getD k 0≤13:=by
 by_cases h:k<30
 ·have:(List.range 30).all (fun k=>decide (ZcN.getD k 0≤13))=true:=by decide
  simpa using List.all_eq_true.1 this k (List.mem_range.2 h)
 ·simp [List.getD,show ZcN.length=30 from rfl,Nat.le_of_not_lt h]
def Tk.Ok:Tk→Prop
 | .lit c=>c<256
 | .far l k=>3≤l∧l≤60∧1≤k∧k≤250
theorem Zj0 (s:Str):∀f a,a≤s.length→∀t∈Zep s f a,t.Ok
 | 0,a,ha,t,h=>by simp [Zep] at h
 | f+1,a,ha,t,h=>by
  rw [Zep] at h
  by_cases hlt:a<s.length
  ·rw [if_pos hlt] at h
   cases hk:Ziz s a with
   | lit c=>
    rw [hk] at h
    rcases List.mem_cons.1 h with rfl | h
    ·rw [Zrg hk];exact UInt8.toNat_lt _
    ·exact Zj0 s f (a+1) (by omega) t h
   | far l k=>
    have hf:=Zrh hk ha
    rw [hk] at h
    rcases List.mem_cons.1 h with rfl | h
    ·exact ⟨hf.1,hf.2.1,hf.2.2.1,hf.2.2.2.1⟩
    ·exact Zj0 s f (a+l) (by omega) t h
  ·rw [if_neg hlt] at h;simp at h
theorem Zjs (s:Str):∀f a,(Zep s f a).length≤f
 | 0,a=>by simp [Zep]
 | f+1,a=>by
  rw [Zep];split
  ·have:=Zjs s f (a+(Ziz s a).long);simp;omega
  ·simp
def Zog (ls ds:List Nat):Tk→List Bool
 | .lit c=>ZhS ls c
 | .far l k=>ZhS ls (257+ZbG Zay l)++(ZbB (l-Zay.getD (ZbG Zay l) 0) (Zb9.getD (ZbG Zay l) 0)++(ZhS ds (ZbG ZaL k)++ZbB (k-ZaL.getD (ZbG ZaL k) 0) (ZcN.getD (ZbG ZaL k) 0)))
def ZeZ (ls ds:List Nat):List Tk→List Bool
 | []=>ZhS ls 256
 | t::r=>Zog ls ds t++ZeZ ls ds r
def Tk.In (ls ds:List Nat):Tk→Prop
 | .lit c=>c<ls.length
 | .far l k=>257+ZbG Zay l<ls.length∧ZbG ZaL k<ds.length
theorem Zb4 (ns:List Nat) (i:Nat) (hi:i<ns.length) (h15:∀n∈ns,n≤15):(ZhS ns i).length≤15:=by
 have hm:ns.getD i 0≤15:=by rw [Zam hi];exact h15 _ (List.getElem_mem hi)
 simp [ZhS,msb,Zai];exact hm
theorem Zf6 (ls ds:List Nat) (hl:∀n∈ls,n≤15) (hd:∀n∈ds,n≤15) (t:Tk) (h:t.In ls ds):(Zog ls ds t).length≤48:=by
 cases t with
 | lit c=>have:=Zb4 ls c h hl;simp only [Zog];omega
 | far l k=>
  have h1:=Zb4 ls _ h.1 hl
  have h2:=Zb4 ds _ h.2 hd
  have h3:=Zh5 (ZbG Zay l)
  have h4:=Ziw (ZbG ZaL k)
  simp only [Zog,List.length_append,Zai];omega
end Ev
end
section
namespace Ev
open Go
theorem Zaa {α β:Type} (a:α) (f:α→Option β):(some a).bind f=f a:=Eq.trans rfl rfl
def ZfG (ls ds:List Nat) (ts:List Tk):List Bool:=ts.flatMap (Zog ls ds)
theorem ZfI (ls ds:List Nat):∀ts,ZeZ ls ds ts=ZfG ls ds ts++ZhS ls 256
 | []=>rfl
 | t::r=>by rw [ZeZ,ZfI ls ds r];simp [ZfG]
theorem ZjW (ts:List Tk) (i:Nat) (h:i<ts.length):(ts.map Tk.z).getD i (0,0,0)=(ts[i]).z:=by
 rw [Zam (by simpa using h)];simp
theorem Zl4 (ls ds:List Nat) (hkl:Zbm ls≤32768) (hkd:Zbm ds≤32768) (hl:∀n∈ls,n≤15) (hd:∀n∈ds,n≤15) (ts:List Tk) (hts:∀t∈ts,t.Ok∧t.In ls ds) (hn:ts.length≤1000) :
  ∀(j i:Nat) (l:List Bool),i+j=ts.length→l.length+48*j≤70000000→
  Zbz.l0 (j+1) (zs ls,zs ds,ts.map Tk.z,(ts.length:Int),(i:Int),(l.length:Int),zs (ZbL ls),zs (ZbL ds),ZeL l) =
   some (zs ls,(((l++ZfG ls ds (ts.drop i)).length:Nat):Int),zs (ZbL ls),ZeL (l++ZfG ls ds (ts.drop i)))
 | 0,i,l,hi,hb=>by
  rw [Zbz.l0.succ];simp only [Zbz.l0.step]
  rw [Za0 (by omega),List.drop_eq_nil_of_le (by omega)];simp [ZfG]
 | j+1,i,l,hi,hb=>by
  have hlt:i<ts.length:=by omega
  obtain ⟨hok,hin⟩:=hts ts[i] (List.getElem_mem hlt)
  have hdr:ts.drop i=ts[i]::ts.drop (i+1):=List.drop_eq_getElem_cons hlt
  have htl:=Zf6 ls ds hl hd ts[i] hin
  have ih:=Zl4 ls ds hkl hkd hl hd ts hts hn j (i+1) (l++Zog ls ds ts[i]) (by omega) (by simp;omega)
  have e:ZfG ls ds (ts.drop i)=Zog ls ds ts[i]++ZfG ls ds (ts.drop (i+1)):=by rw [hdr];rfl
  rw [e,←List.append_assoc,←ih]
  rw [Zbz.l0.succ];simp only [Zbz.l0.step]
  rw [ZaZ hlt,cond_true,Zab _ (by rw [List.length_map];exact Zav hlt),Int.toNat_natCast,ZjW ts i hlt,Zaf (n:=(i:Int)+1) (by omega) (by omega),show (i:Int)+1=((i+1:Nat):Int) by omega]
  cases hk:ts[i] with
  | lit c=>
   rw [hk] at hok hin
   have hc:=ZhU ls hkl hl c hin l (by omega)
   simp only [Tk.z]
   rw [show ((0:Int)==0)=true from rfl,cond_true,hc]
   simp only [Zaa,Zog]
  | far n k=>
   rw [hk] at hok hin
   obtain ⟨o1,o2,o3,o4⟩:=hok
   obtain ⟨i1,i2⟩:=hin
   obtain ⟨a1,a2,a3,a4,a5⟩:=ZeI n o1 o2
   obtain ⟨b1,b2,b3,b4,b5⟩:=Zfg k o3 o4
   have hlb:=Zh5 (ZbG Zay n)
   have hbb:=Ziw (ZbG ZaL k)
   have hs1:=Zb4 ls (257+ZbG Zay n) i1 hl
   have hs2:=Zb4 ds (ZbG ZaL k) i2 hd
   have c1:=ZhU ls hkl hl _ i1 l (by omega)
   have c2:=Zd7 (n-Zay.getD (ZbG Zay n) 0) (Zb9.getD (ZbG Zay n) 0) (by omega) (by omega) (l++ZhS ls (257+ZbG Zay n)) (by simp only [List.length_append];omega)
   have c3:=ZhU ds hkd hd _ i2 ((l++ZhS ls (257+ZbG Zay n))++ZbB (n-Zay.getD (ZbG Zay n) 0) (Zb9.getD (ZbG Zay n) 0)) (by simp only [List.length_append,Zai];omega)
   have c4:=Zd7 (k-ZaL.getD (ZbG ZaL k) 0) (ZcN.getD (ZbG ZaL k) 0) (by omega) (by omega) (((l++ZhS ls (257+ZbG Zay n))++ZbB (n-Zay.getD (ZbG Zay n) 0) (Zb9.getD (ZbG Zay n) 0))++ZhS ds (ZbG ZaL k)) (by simp only [List.length_append,Zai];omega)
   have eL:=ZiY
   have eB:=Zjq
   have gL:=fun i:Nat=>ZaD Zay i
   have gM:=fun i:Nat=>ZaD Zb9 i
   have gB:=fun i:Nat=>ZaD ZaL i
   have gC:=fun i:Nat=>ZaD ZcN i
   have nL:(zs Zay).length=28:=Zag Zay
   have nM:(zs Zb9).length=28:=Zag Zb9
   have nB:(zs ZaL).length=30:=Zag ZaL
   have nC:(zs ZcN).length=30:=Zag ZcN
   generalize zs Zay=A at eL a1 a2 gL nL
   generalize zs Zb9=A' at eL a1 gM nM
   generalize zs ZaL=B at eB b1 b2 gB nB
   generalize zs ZcN=B' at eB b1 gC nC
   simp only [Tk.z]
   rw [show ((n:Int)==0)=false by simp;omega,cond_false,eL,eB]
   simp only [Zaa]
   rw [a1]
   simp only [Zaa]
   rw [Zaf (n:=257+((ZbG Zay n:Nat):Int)) (by omega) (by omega),show (257:Int)+((ZbG Zay n:Nat):Int)=((257+ZbG Zay n:Nat):Int) by omega,c1]
   simp only [Zaa]
   rw [Zab _ (Zav (by rw [nL];exact a3)),Zab _ (Zav (by rw [nM];exact a3)),Int.toNat_natCast,gL,gM,
    Zaf (n:=(n:Int)-((Zay.getD (ZbG Zay n) 0:Nat):Int)) (by omega) (by omega),show (n:Int)-((Zay.getD (ZbG Zay n) 0:Nat):Int)=((n-Zay.getD (ZbG Zay n) 0:Nat):Int) by omega,c2]
   simp only [Zaa]
   rw [b1]
   simp only [Zaa]
   rw [c3]
   simp only [Zaa]
   rw [Zab _ (Zav (by rw [nB];exact b3)),Zab _ (Zav (by rw [nC];exact b3)),Int.toNat_natCast,gB,gC,
    Zaf (n:=(k:Int)-((ZaL.getD (ZbG ZaL k) 0:Nat):Int)) (by omega) (by omega),show (k:Int)-((ZaL.getD (ZbG ZaL k) 0:Nat):Int)=((k-ZaL.getD (ZbG ZaL k) 0:Nat):Int) by omega,c4]
   simp only [Zaa,Zog,List.append_assoc]
theorem Zl5 (ls ds:List Nat) (hkl:Zbm ls≤32768) (hkd:Zbm ds≤32768) (hl:∀n∈ls,n≤15) (hd:∀n∈ds,n≤15) (h1:ls.length≤300) (h2:ds.length≤300) (h256:256<ls.length) (ts:List Tk) (hts:∀t∈ts,t.Ok∧t.In ls ds) (hn:ts.length≤1000)
  (l:List Bool) (hb:l.length≤60000000):Zbz (ts.map Tk.z) (zs ls) (zs ds) (l.length:Int) (ZeL l)=some ((((l++ZeZ ls ds ts).length:Nat):Int),ZeL (l++ZeZ ls ds ts)):=by
 unfold Zbz
 rw [Zkd ls (by omega),Zkd ds (by omega)]
 simp only [Zae,List.length_map]
 rw [ZaJ]
 have h:=Zl4 ls ds hkl hkd hl hd ts hts hn ts.length 0 l (by omega) (by omega)
 rw [show ((0:Nat):Int)=0 from rfl] at h
 rw [h,List.drop_zero]
 simp only [Zae]
 have hbl:(ZfG ls ds ts).length≤48*ts.length:=by
  clear h hn hb
  induction ts with
  | nil=>simp [ZfG]
  | cons t r ih=>
   have:=ih (fun t h=>hts t (List.mem_cons_of_mem _ h))
   have ht:=Zf6 ls ds hl hd t (hts t (List.mem_cons_self ..)).2
   simp only [ZfG,List.flatMap_cons,List.length_append,List.length_cons] at this ⊢;omega
 have hc:=ZhU ls hkl hl 256 h256 (l++ZfG ls ds ts) (by simp;omega)
 rw [show ((256:Nat):Int)=256 from rfl] at hc
 rw [hc,ZfI]
 simp only [Zae,List.append_assoc]
theorem Zmt (ls ds:List Nat) (hkl:Zbm ls≤32768) (hkd:Zbm ds≤32768) (hl:∀n∈ls,n≤15) (hd:∀n∈ds,n≤15) (ts:List Tk) (hts:∀t∈ts,t.Ok∧t.In ls ds) (hn:ts.length≤1000) :
  ∀(j i:Nat) (l:List Bool),i+j=ts.length→l.length+48*j≤70000000→
  ZbA.l0 (j+1) (ts.map Tk.z,zs ls,zs ds,(i:Int),(oL l:Int),((l.length%8:Nat):Int),zs (ZbL ls),zs (ZbL ds),zs Zay,zs ZaL,oT l) =
   some (zs ls,(oL (l++ZfG ls ds (ts.drop i)):Int),(((l++ZfG ls ds (ts.drop i)).length%8:Nat):Int),zs (ZbL ls),oT (l++ZfG ls ds (ts.drop i)))
 | 0,i,l,hi,hb=>by
  rw [ZbA.l0.succ];simp only [ZbA.l0.step,List.length_map]
  rw [Za0 (by omega),List.drop_eq_nil_of_le (by omega)];simp [ZfG]
 | j+1,i,l,hi,hb=>by
  have hlt:i<ts.length:=by omega
  obtain ⟨hok,hin⟩:=hts ts[i] (List.getElem_mem hlt)
  have hdr:ts.drop i=ts[i]::ts.drop (i+1):=List.drop_eq_getElem_cons hlt
  have htl:=Zf6 ls ds hl hd ts[i] hin
  have ih:=Zmt ls ds hkl hkd hl hd ts hts hn j (i+1) (l++Zog ls ds ts[i]) (by omega) (by simp;omega)
  have e:ZfG ls ds (ts.drop i)=Zog ls ds ts[i]++ZfG ls ds (ts.drop (i+1)):=by rw [hdr];rfl
  rw [e,←List.append_assoc,←ih]
  rw [ZbA.l0.succ];simp only [ZbA.l0.step,List.length_map]
  rw [ZaZ hlt,cond_true,Zab _ ZaE,Int.toNat_natCast,ZjW ts i hlt,Zaf (n:=(i:Int)+1) (by omega) (by omega),show (i:Int)+1=((i+1:Nat):Int) by omega]
  cases hk:ts[i] with
  | lit c=>
   rw [hk] at hok hin
   have hc:=ZkM ls hkl hl c hin l (by omega)
   simp only [Tk.z]
   rw [show ((0:Int)==0)=true from rfl,cond_true,hc]
   simp only [Zae,Zog]
  | far n k=>
   rw [hk] at hok hin
   obtain ⟨o1,o2,o3,o4⟩:=hok
   obtain ⟨i1,i2⟩:=hin
   obtain ⟨a1,a2,a3,a4,a5⟩:=ZeI n o1 o2
   obtain ⟨b1,b2,b3,b4,b5⟩:=Zfg k o3 o4
   have hlb:=Zh5 (ZbG Zay n)
   have hbb:=Ziw (ZbG ZaL k)
   have hs1:=Zb4 ls (257+ZbG Zay n) i1 hl
   have hs2:=Zb4 ds (ZbG ZaL k) i2 hd
   have c1:=ZkM ls hkl hl _ i1 l (by omega)
   have c2:=ZdP (n-Zay.getD (ZbG Zay n) 0) (Zb9.getD (ZbG Zay n) 0) (by omega) (by omega) (l++ZhS ls (257+ZbG Zay n)) (by simp only [List.length_append];omega)
   have c3:=ZkM ds hkd hd _ i2 ((l++ZhS ls (257+ZbG Zay n))++ZbB (n-Zay.getD (ZbG Zay n) 0) (Zb9.getD (ZbG Zay n) 0)) (by simp only [List.length_append,Zai];omega)
   have c4:=ZdP (k-ZaL.getD (ZbG ZaL k) 0) (ZcN.getD (ZbG ZaL k) 0) (by omega) (by omega) (((l++ZhS ls (257+ZbG Zay n))++ZbB (n-Zay.getD (ZbG Zay n) 0) (Zb9.getD (ZbG Zay n) 0))++ZhS ds (ZbG ZaL k)) (by simp only [List.length_append,Zai];omega)
   simp only [Tk.z]
   rw [show ((n:Int)==0)=false by simp;omega,cond_false,ZeO,ZeP]
   simp only [Zae,a2,b2]
   rw [Zaf (n:=257+((ZbG Zay n:Nat):Int)) (by omega) (by omega),show (257:Int)+((ZbG Zay n:Nat):Int)=((257+ZbG Zay n:Nat):Int) by omega,c1]
   simp only [Zae]
   rw [Zab _ (Zav (by rw [Zag];exact a3)),Zab _ (Zav (by rw [Zag];exact a3)),Int.toNat_natCast,ZaD,ZaD,
    Zaf (n:=(n:Int)-((Zay.getD (ZbG Zay n) 0:Nat):Int)) (by omega) (by omega),show (n:Int)-((Zay.getD (ZbG Zay n) 0:Nat):Int)=((n-Zay.getD (ZbG Zay n) 0:Nat):Int) by omega,c2]
   simp only [Zae]
   rw [c3]
   simp only [Zae]
   rw [Zab _ (Zav (by rw [Zag];exact b3)),Zab _ (Zav (by rw [Zag];exact b3)),Int.toNat_natCast,ZaD,ZaD,
    Zaf (n:=(k:Int)-((ZaL.getD (ZbG ZaL k) 0:Nat):Int)) (by omega) (by omega),show (k:Int)-((ZaL.getD (ZbG ZaL k) 0:Nat):Int)=((k-ZaL.getD (ZbG ZaL k) 0:Nat):Int) by omega,c4]
   simp only [Zae,Zog,List.append_assoc]
theorem Zfv (ls ds:List Nat) (hl:∀n∈ls,n≤15) (hd:∀n∈ds,n≤15):∀ts:List Tk,(∀t∈ts,t.Ok∧t.In ls ds)→(ZfG ls ds ts).length≤48*ts.length
 | [],_=>by simp [ZfG]
 | t::r,h=>by
  have:=Zfv ls ds hl hd r (fun t ht=>h t (List.mem_cons_of_mem _ ht))
  have ht:=Zf6 ls ds hl hd t (h t (List.mem_cons_self ..)).2
  simp only [ZfG,List.flatMap_cons,List.length_append,List.length_cons] at this ⊢;omega
theorem Zmu (ls ds:List Nat) (hkl:Zbm ls≤32768) (hkd:Zbm ds≤32768) (hl:∀n∈ls,n≤15) (hd:∀n∈ds,n≤15) (h1:ls.length≤300) (h2:ds.length≤300) (h256:256<ls.length) (ts:List Tk) (hts:∀t∈ts,t.Ok∧t.In ls ds) (hn:ts.length≤1000)
  (l:List Bool) (hb:l.length≤60000000):ZbA (ts.map Tk.z) (zs ls) (zs ds) (oL l:Int) ((l.length%8:Nat):Int) (oT l) =
   some ((oL (l++ZeZ ls ds ts):Int),(((l++ZeZ ls ds ts).length%8:Nat):Int),oT (l++ZeZ ls ds ts)):=by
 unfold ZbA
 rw [Zeg ls (by omega),Zeg ds (by omega),ZeO,ZeP]
 simp only [Zae,List.length_map,ZhE,ZhF]
 rw [ZaJ]
 have h:=Zmt ls ds hkl hkd hl hd ts hts hn ts.length 0 l (by omega) (by omega)
 rw [show ((0:Nat):Int)=0 from rfl] at h
 rw [h,List.drop_zero]
 simp only [Zae]
 have hbl:=Zfv ls ds hl hd ts hts
 have hc:=ZkM ls hkl hl 256 h256 (l++ZfG ls ds ts) (by simp;omega)
 rw [show ((256:Nat):Int)=256 from rfl] at hc
 rw [hc,ZfI]
 simp only [Zae,List.append_assoc]
end Ev
end
section
namespace Ev
open Go
def ZgF (l:List Bool):Str:=ZbM (ZeL l)
theorem ZgE (l:List Bool):(ZgF l).length=(l.length+7)/8:=by simp [ZgF,ZbM,ZcV]
theorem ZsE (l:List Bool) (h:8≤l.length):ZeL l=((Zb6 (l.take 8):Nat):Int)::ZeL (l.drop 8):=by
 unfold ZeL
 rw [show (l.length+7)/8=((l.drop 8).length+7)/8+1 by rw [List.length_drop];omega,List.range_succ_eq_map,List.map_cons,List.map_map]
 congr 1
 apply List.map_congr_left
 intro i _
 simp only [Function.comp,List.drop_drop]
 rw [show 8*(i+1)=8+8*i by omega]
theorem Zva (l:List Bool) (h:l.length=8):ZbB (UInt8.ofNat ((Zb6 l:Nat):Int).toNat).toNat 8=l:=by
 have hv:=Zkj l
 rw [h] at hv
 rw [Int.toNat_natCast,UInt8.toNat_ofNat_of_lt' (by omega)]
 have:=ZoY l
 rwa [h] at this
theorem Zgk:∀(k:Nat) (l:List Bool),l.length=8*k→ZcT (ZgF l)=l
 | 0,l,h=>by
  have:l=[]:=List.length_eq_zero_iff.1 (by omega)
  subst this;rfl
 | k+1,l,h=>by
  have e:ZgF l=UInt8.ofNat ((Zb6 (l.take 8):Nat):Int).toNat::ZgF (l.drop 8):=by unfold ZgF;rw [ZsE l (by omega)];rfl
  rw [e,ZcT,Zva _ (by rw [List.length_take];omega),Zgk k _ (by rw [List.length_drop];omega),List.take_append_drop]
theorem Zp8 (l:List Bool):ZcT (ZgF l)=Zhg l:=by
 have:ZgF l=ZgF (Zhg l):=by unfold ZgF;rw [(Zh0 l).2]
 rw [this]
 exact Zgk _ _ (Zfr l)
def ZmW:List Bool:=[true,false,false,false,false,false,false,false]
def Ze1 (n:Nat):List Bool:=ZmW++ZbB n 16++ZbB (65535-n) 16
def Zgo (s:Str):Str:=ZgF (Ze1 s.length)++s
theorem Zqs (s:Str) (hs:s.length≤300):Zc6 s=some (Zgo s):=by
 have e1:Zen 1 3 0 []=some (3,[1]):=by kernel_rfl
 have e2:ZiC 3 [1]=some (8,ZeL ZmW):=by kernel_rfl
 have e3:=Zd7 s.length 16 (by omega) (by omega) ZmW (by simp [ZmW])
 have e4:=Zd7 (65535-s.length) 16 (by omega) (by omega) (ZmW++ZbB s.length 16) (by simp [ZmW,Zai])
 rw [show (ZmW.length:Int)=8 from rfl,show ((16:Nat):Int)=16 from rfl] at e3
 rw [show ((16:Nat):Int)=16 from rfl] at e4
 unfold Zc6
 rw [decide_eq_false (by omega),cond_false,e1]
 simp only [Zaa]
 rw [e2]
 simp only [Zaa]
 rw [e3]
 simp only [Zaa]
 rw [Zaf (by omega) (by omega),show (65535:Int)-(s.length:Int)=((65535-s.length:Nat):Int) by omega,e4]
 simp only [Zaa]
 rw [Zad]
 ·rfl
 ·have:=ZgE (Ze1 s.length)
  unfold ZgF Ze1 at this
  rw [this];simp [ZmW,Zai];omega
theorem ZsZ (s:Str) (hs:s.length≤300):ZdS s=some (Zgo s):=by
 have e1:ZdG 1 1 0 0 []=some (1,1,[]):=by kernel_rfl
 have e2:ZdG 0 2 1 1 []=some (1,3,[]):=by kernel_rfl
 have e3:Zdf 1 3 []=some (0,0,oT ZmW):=by kernel_rfl
 have e4:=ZdP s.length 16 (by omega) (by omega) ZmW (by simp [ZmW])
 have e5:=ZdP (65535-s.length) 16 (by omega) (by omega) (ZmW++ZbB s.length 16) (by simp [ZmW,Zai])
 rw [show (oL ZmW:Int)=0 by kernel_rfl,show ((ZmW.length%8:Nat):Int)=0 from rfl,show ((16:Nat):Int)=16 from rfl] at e4
 rw [show ((16:Nat):Int)=16 from rfl] at e5
 unfold ZdS
 rw [e1]
 simp only [Zaa]
 rw [e2]
 simp only [Zaa]
 rw [e3]
 simp only [Zaa]
 rw [e4]
 simp only [Zaa]
 rw [Zaf (by omega) (by omega),show (65535:Int)-(s.length:Int)=((65535-s.length:Nat):Int) by omega,e5]
 simp only [Zaa]
 have hl:(Ze1 s.length).length=40:=by simp [Ze1,ZmW,Zai]
 have hq:=ZgE (Ze1 s.length)
 unfold ZgF at hq
 have hp:oT (Ze1 s.length)=ZeL (Ze1 s.length):=by
  have hf:Zhg (Ze1 s.length)=Ze1 s.length:=by unfold Zhg;rw [hl,show (8-40%8)%8=0 from rfl,List.replicate_zero,List.append_nil]
  rw [(Zh0 _).1,hf]
 rw [show oT (ZmW++ZbB s.length 16++ZbB (65535-s.length) 16)=ZeL (Ze1 s.length) from hp,Zad (by rw [hq,hl];omega)]
 rfl
theorem Znu (s:Str):(Zgo s).length=5+s.length:=by
 simp only [Zgo,List.length_append,ZgE]
 simp [Ze1,ZmW,Zai]
theorem Zm4:Zbm Zlk=32768:=by kernel_rfl
theorem Zm5:Zbm Zl1=32768:=by kernel_rfl
theorem Zn2:∀n∈Zlk,n≤15:=by
 intro n hn
 simp only [Zlk,List.mem_append,List.mem_replicate] at hn
 omega
theorem Zq0:∀n∈Zl1,n≤15:=by
 intro n hn
 simp only [Zl1,List.mem_replicate] at hn
 omega
theorem ZcC:Zlk.length=288:=by kernel_rfl
theorem Zgh:Zl1.length=32:=by kernel_rfl
theorem ZuR (t:Tk) (h:t.Ok):t.In Zlk Zl1:=by
 cases t with
 | lit c=>show c<Zlk.length;rw [ZcC];have:c<256:=h;omega
 | far l k=>
  obtain ⟨h1,h2,h3,h4⟩:=h
  have a:=(ZeI l h1 h2).2.2.1
  have b:=(Zfg k h3 h4).2.2.1
  show 257+ZbG Zay l<Zlk.length∧ZbG ZaL k<Zl1.length
  rw [ZcC,Zgh];omega
theorem Zfz (s:Str):∀t∈Zhi s,t.Ok:=Zj0 s _ 0 (Nat.zero_le _)
theorem ZeY (s:Str):(Zhi s).length≤s.length:=Zjs s _ 0
def ZuQ (s:Str):List Bool:=ZbB 1 1++ZbB 1 2++ZeZ Zlk Zl1 (Zhi s)
def Zgt (s:Str):Str:=ZgF (ZuQ s)
theorem ZqZ (s:Str) (hs:s.length≤300):Zdd s=some (Zgt s):=by
 have hl:=ZeY s
 have e1:=Zd7 1 1 (by omega) (by omega) [] (by simp)
 have e2:=Zd7 1 2 (by omega) (by omega) ([]++ZbB 1 1) (by simp [Zai])
 have e3:=Zl5 Zlk Zl1 (by rw [Zm4];omega) (by rw [Zm5];omega) Zn2 Zq0 (by rw [ZcC];omega) (by rw [Zgh];omega) (by rw [ZcC];omega) (Zhi s) (fun t h=>⟨Zfz s t h,ZuR t (Zfz s t h)⟩) (by omega) ([]++ZbB 1 1++ZbB 1 2) (by simp [Zai])
 rw [show ((1:Nat):Int)=1 from rfl,show (([]:List Bool).length:Int)=0 from rfl,show ZeL []=[] by kernel_rfl] at e1
 rw [show ((1:Nat):Int)=1 from rfl,show ((2:Nat):Int)=2 from rfl] at e2
 unfold Zdd
 rw [decide_eq_false (by omega),cond_false,e1]
 simp only [Zaa]
 rw [e2]
 simp only [Zaa]
 rw [ZjL,Zkn s hs]
 simp only [Zaa]
 rw [e3]
 rfl
theorem Zs1 (s:Str) (hs:s.length≤300):ZdT s=some (Zgt s):=by
 have hl:=ZeY s
 have e1:=ZdP 1 1 (by omega) (by omega) [] (by simp)
 have e2:=ZdP 1 2 (by omega) (by omega) ([]++ZbB 1 1) (by simp [Zai])
 have e3:=Zmu Zlk Zl1 (by rw [Zm4];omega) (by rw [Zm5];omega) Zn2 Zq0 (by rw [ZcC];omega) (by rw [Zgh];omega) (by rw [ZcC];omega) (Zhi s) (fun t h=>⟨Zfz s t h,ZuR t (Zfz s t h)⟩) (by omega) ([]++ZbB 1 1++ZbB 1 2) (by simp [Zai])
 have hb:=Zfv Zlk Zl1 Zn2 Zq0 (Zhi s) (fun t h=>⟨Zfz s t h,ZuR t (Zfz s t h)⟩)
 have h2:=Zb4 Zlk 256 (by rw [ZcC];omega) Zn2
 have e4:=ZoV ([]++ZbB 1 1++ZbB 1 2++ZeZ Zlk Zl1 (Zhi s)) (by simp only [ZfI,List.length_append,Zai,List.length_nil];omega)
 rw [show ((1:Nat):Int)=1 from rfl,show (oL []:Int)=0 by kernel_rfl,show ((([]:List Bool).length%8:Nat):Int)=0 from rfl,show oT []=[] by kernel_rfl] at e1
 rw [show ((1:Nat):Int)=1 from rfl,show ((2:Nat):Int)=2 from rfl] at e2
 unfold ZdT
 rw [e1]
 simp only [Zaa]
 rw [e2]
 simp only [Zaa]
 rw [ZmK,ZmL,Zk0 s hs]
 simp only [Zaa]
 rw [e3]
 simp only [Zaa]
 rw [e4]
 rfl
end Ev
end
section
namespace Ev
open Go
abbrev HT:=Nat×Nat×List Nat
def ZeH (out:List Nat) (S:List Nat):List Nat:=(List.range out.length).map fun i=>out.getD i 0+S.count i
theorem Zax (out S:List Nat):(ZeH out S).length=out.length:=by simp [ZeH]
theorem Zcn (out S:List Nat) (i:Nat) (h:i<out.length):(ZeH out S).getD i 0=out.getD i 0+S.count i:=by
 rw [Zam (by rw [Zax];exact h)]
 simp [ZeH]
theorem Zvc (out:List Nat) {S S':List Nat} (h:S.Perm S'):ZeH out S=ZeH out S':=by
 unfold ZeH
 exact List.map_congr_left fun i _=>by rw [h.count_eq]
theorem ZdX (out:List Nat):ZeH out []=out:=by
 apply List.ext_getElem
 ·exact Zax _ _
 ·intro i h1 h2
  have:=Zcn out [] i h2
  rw [Zam h1,Zam h2] at this
  simpa using this
theorem Ziu (out S:List Nat) (s:Nat) (h:s<out.length):ZeH out (S++[s])=(ZeH out S).set s ((ZeH out S).getD s 0+1):=by
 apply List.ext_getElem
 ·simp [Zax]
 ·intro i h1 h2
  rw [Zax] at h1
  have e1:=Zcn out (S++[s]) i h1
  have e2:=Zcn out S i h1
  rw [Zam (by rw [Zax];exact h1)] at e1 e2
  have e3:=Zcn out S s h
  rw [e1,List.getElem_set,e2,List.count_append]
  by_cases c:s=i
  ·subst c;rw [if_pos rfl,e3];simp;omega
  ·rw [if_neg c];simp [List.count_cons,c]
def ZiH (out:List Nat) (S:List Nat):Nat:=(S.map fun s=>2^(15-out.getD s 0)).sum
def Zin:Nat→Nat
 | 0=>0
 | 1=>1
 | n+2=>Zin n+Zin (n+1)
theorem Zxr (n:Nat):Zin n≤Zin (n+1):=by
 cases n with
 | zero=>decide
 | succ n=>show Zin (n+1)≤Zin n+Zin (n+1);omega
theorem Zll {a b:Nat} (h:a≤b):Zin a≤Zin b:=by
 induction h with
 | refl=>exact Nat.le_refl _
 | step _ ih=>exact Nat.le_trans ih (Zxr _)
theorem Zn4 (n:Nat):1≤Zin (n+1):=Zll (a:=1) (by omega)
theorem Zim {d c:Nat} (h:Zin (d+2)≤c) (hc:c≤400):d≤12:=by
 rcases Nat.lt_or_ge 12 d with h13 | h13
 ·have:Zin 15≤Zin (d+2):=Zll (by omega)
  have:Zin 15=610:=by decide
  omega
 ·exact h13
structure TOk (out:List Nat) (T:Nat) (e:HT):Prop where
 fin:e.2.1∈e.2.2
 fle:∀s∈e.2.2,e.2.1≤s
 lt:∀s∈e.2.2,s<out.length
 kr:ZiH out e.2.2=32768
 dep:∃d,(∀s∈e.2.2,out.getD s 0≤d)∧Zin (d+2)≤e.1∧(1≤d→Zin (d+1)≤T)
 top:T≤e.1
structure Zqk (out:List Nat) (l:List HT) (T:Nat) (U:List Nat) (tot:Nat):Prop where
 all:∀e∈l,TOk out T e
 perm:(l.flatMap fun e=>e.2.2).Perm U
 sum:(l.map fun e=>e.1).sum=tot
theorem Zrj {α:Type} {l l':List α} (f:α→Nat) (h:l.Perm l'):(l.map f).sum=(l'.map f).sum:=by
 induction h with
 | nil=>rfl
 | cons x _ ih=>simp [ih]
 | swap x y l=>simp only [List.map_cons,List.sum_cons];omega
 | trans _ _ a b=>exact a.trans b
theorem ZuP {α β:Type} {l l':List α} (f:α→List β) (h:l.Perm l'):(l.flatMap f).Perm (l'.flatMap f):=by
 induction h with
 | nil=>exact .refl _
 | cons x _ ih=>simpa using List.Perm.append_left _ ih
 | swap x y l=>
  simp only [List.flatMap_cons,←List.append_assoc]
  exact List.Perm.append_right _ List.perm_append_comm
 | trans _ _ a b=>exact a.trans b
theorem Zqk.of_perm {out:List Nat} {l l':List HT} {T:Nat} {U:List Nat} {tot:Nat} (h:Zqk out l T U tot) (p:l.Perm l'):Zqk out l' T U tot:=
 ⟨fun e he=>h.all e (p.mem_iff.2 he),(ZuP _ p).symm.trans h.perm,(Zrj _ p).symm.trans h.sum⟩
theorem ZtD (out S:List Nat) (h:∀s∈S,s<out.length∧out.getD s 0≤14) (out':List Nat) (h':∀s∈S,out'.getD s 0=out.getD s 0+1):2*ZiH out' S=ZiH out S:=by
 induction S with
 | nil=>rfl
 | cons s S ih=>
  have:=ih (fun x hx=>h x (List.mem_cons_of_mem _ hx)) (fun x hx=>h' x (List.mem_cons_of_mem _ hx))
  have h1:=h s (List.mem_cons_self ..)
  have h2:=h' s (List.mem_cons_self ..)
  simp only [ZiH,List.map_cons,List.sum_cons] at this ⊢
  rw [h2,Nat.mul_add,this]
  congr 1
  rw [show 15-out.getD s 0=(15-(out.getD s 0+1))+1 by omega,Nat.pow_succ,Nat.mul_comm]
theorem ZtC (out out' S:List Nat) (h':∀s∈S,out'.getD s 0=out.getD s 0):ZiH out' S=ZiH out S:=by
 unfold ZiH
 congr 1
 exact List.map_congr_left fun s hs=>by rw [h' s hs]
theorem Zhz (out a b:List Nat):ZiH out (a++b)=ZiH out a+ZiH out b:=by simp [ZiH]
def Zid (a b:HT):HT:=(a.1+b.1,(if b.2.1<a.2.1 then b.2.1 else a.2.1),a.2.2++b.2.2)
theorem Zqk.step {out:List Nat} {a b:HT} {r:List HT} {T:Nat} {U:List Nat} {tot:Nat} (h:Zqk out (a::b::r) T U tot) (hU:U.Nodup) (htot:tot≤400) (hab:a.1≤b.1) (hr:∀e∈r,b.1≤e.1) :
  Zqk (ZeH out (a.2.2++b.2.2)) (Zid a b::r) b.1 U tot:=by
 have ha:=h.all a (by simp)
 have hb:=h.all b (by simp)
 have hsum:=h.sum
 simp only [List.map_cons,List.sum_cons] at hsum
 have hp:=h.perm
 simp only [List.flatMap_cons] at hp
 have hnd:=(hp.nodup_iff).2 hU
 rw [←List.append_assoc] at hnd
 obtain ⟨da,a1,a2,a3⟩:=ha.dep
 obtain ⟨db,b1,b2,b3⟩:=hb.dep
 have hda:=Zim a2 (by omega)
 have hdb:=Zim b2 (by omega)
 have hlt:∀s∈a.2.2++b.2.2,s<out.length:=fun s hs=>(List.mem_append.1 hs).elim (ha.lt s) (hb.lt s)
 have hone:∀s∈a.2.2++b.2.2,(ZeH out (a.2.2++b.2.2)).getD s 0=out.getD s 0+1:=fun s hs=>by
  rw [Zcn out _ s (hlt s hs)]
  have:=(List.nodup_append.1 hnd).1
  rw [this.count,if_pos hs]
 have hother:∀e∈r,∀s∈e.2.2,(ZeH out (a.2.2++b.2.2)).getD s 0=out.getD s 0:=fun e he s hs=>by
  rw [Zcn out _ s ((h.all e (by simp [he])).lt s hs),List.count_eq_zero.2 (fun hm=>(List.nodup_append.1 hnd).2.2 s hm s (List.mem_flatMap.2 ⟨e,he,hs⟩) rfl)];rfl
 refine ⟨fun e he=>?_,?_,?_⟩
 ·rcases List.mem_cons.1 he with rfl | he
  ·have pa:=Zn4 (da+1)
   have pb:=Zn4 (db+1)
   refine ⟨?_,fun s hs=>?_,fun s hs=>by rw [Zax];exact hlt s hs,?_,⟨max da db+1,fun s hs=>?_,?_,fun _=>?_⟩,Nat.le_add_left _ _⟩
   ·show (if b.2.1<a.2.1 then b.2.1 else a.2.1)∈a.2.2++b.2.2
    split
    ·exact List.mem_append_right _ hb.fin
    ·exact List.mem_append_left _ ha.fin
   ·show (if b.2.1<a.2.1 then b.2.1 else a.2.1)≤s
    rcases List.mem_append.1 hs with hs | hs
    ·have:=ha.fle s hs;split<;>omega
    ·have:=hb.fle s hs;split<;>omega
   ·have h2:=ZtD out (a.2.2++b.2.2) (fun s hs=>⟨hlt s hs,by
     rcases List.mem_append.1 hs with hs | hs
     ·have:=a1 s hs;omega
     ·have:=b1 s hs;omega⟩) _ hone
    rw [Zhz out,ha.kr,hb.kr] at h2
    show ZiH _ (a.2.2++b.2.2)=32768
    omega
   ·rw [hone s hs]
    rcases List.mem_append.1 hs with hs | hs
    ·have:=a1 s hs;omega
    ·have:=b1 s hs;omega
   ·show Zin (max da db+1+2)≤a.1+b.1
    have e:Zin (max da db+1+2)=Zin (max da db+1)+Zin (max da db+2):=rfl
    rw [e]
    rcases Nat.le_total db da with hd | hd
    ·rw [Nat.max_eq_left hd]
     have:Zin (da+1)≤b.1:=by
      rcases Nat.eq_zero_or_pos da with h0 | h0
      ·subst h0;exact Nat.le_trans (Zn4 0 |> fun _=>(by simpa [Zin] using pb)) b2
      ·exact Nat.le_trans (a3 h0) hb.top
     omega
    ·rw [Nat.max_eq_right hd]
     have:Zin (db+1)≤a.1:=by
      rcases Nat.eq_zero_or_pos db with h0 | h0
      ·subst h0;exact Nat.le_trans (by simpa [Zin] using pa) a2
      ·exact Nat.le_trans (b3 h0) ha.top
     omega
   ·show Zin (max da db+1+1)≤b.1
    rcases Nat.le_total db da with hd | hd
    ·rw [Nat.max_eq_left hd];exact Nat.le_trans a2 hab
    ·rw [Nat.max_eq_right hd];exact b2
  ·have he':=h.all e (by simp [he])
   obtain ⟨d,d1,d2,d3⟩:=he'.dep
   exact ⟨he'.fin,he'.fle,fun s hs=>by rw [Zax];exact he'.lt s hs,(ZtC _ _ _ (hother e he)).trans he'.kr,
    ⟨d,fun s hs=>by rw [hother e he s hs];exact d1 s hs,d2,fun h1=>Nat.le_trans (d3 h1) hb.top⟩,hr e he⟩
 ·simp only [List.flatMap_cons,Zid,List.append_assoc];exact hp
 ·simp only [List.map_cons,List.sum_cons,Zid];omega
end Ev
end
section
namespace Ev
open Go
def ltH (x y:HT):Bool:=decide (x.1<y.1)||(decide (x.1=y.1)&&decide (x.2.1<y.2.1))
def HT.d:HT:=(0,0,[])
def ZgQ (l:List HT):Nat→Nat→Nat→Nat
 | 0,a,_=>a
 | f+1,a,i=>ZgQ l f (if ltH (l.getD i HT.d) (l.getD a HT.d) then i else a) (i+1)
def lst (l:List HT):Nat:=ZgQ l (l.length-1) 0 1
def less (l:List HT) (k:Nat):List HT:=l.take k++l.drop (k+1)
theorem ZhD (l:List HT):∀(f a i:Nat),i+f=l.length→a<l.length→(∀j,j<i→(l.getD a HT.d).1≤(l.getD j HT.d).1)→
  ZgQ l f a i<l.length∧∀j,j<l.length→(l.getD (ZgQ l f a i) HT.d).1≤(l.getD j HT.d).1
 | 0,a,i,h,ha,hj=>⟨ha,fun j hl=>hj j (by omega)⟩
 | f+1,a,i,h,ha,hj=>by
  rw [ZgQ]
  by_cases c:ltH (l.getD i HT.d) (l.getD a HT.d)=true
  ·rw [if_pos c]
   refine ZhD l f i (i+1) (by omega) (by omega) fun j hl=>?_
   have:(l.getD i HT.d).1≤(l.getD a HT.d).1:=by
    simp only [ltH,Bool.or_eq_true,Bool.and_eq_true,decide_eq_true_eq] at c;omega
   by_cases e:j=i
   ·subst e;exact Nat.le_refl _
   ·have:=hj j (by omega);omega
  ·rw [if_neg c]
   refine ZhD l f a (i+1) (by omega) ha fun j hl=>?_
   by_cases e:j=i
   ·subst e
    simp only [ltH,Bool.or_eq_true,Bool.and_eq_true,decide_eq_true_eq] at c;omega
   ·exact hj j (by omega)
theorem Zgd (l:List HT) (h:0<l.length):lst l<l.length∧∀e∈l,(l.getD (lst l) HT.d).1≤e.1:=by
 have:=ZhD l (l.length-1) 0 1 (by omega) h (fun j hj=>by rw [show j=0 by omega];exact Nat.le_refl _)
 refine ⟨this.1,fun e he=>?_⟩
 obtain ⟨j,hj,rfl⟩:=List.getElem_of_mem he
 have h2:=this.2 j hj
 rw [Zam hj] at h2
 exact h2
theorem ZkS (l:List HT) (k:Nat) (h:k<l.length):l.Perm (l.getD k HT.d::less l k):=by
 have e:l=l.take k++(l.getD k HT.d::l.drop (k+1)):=by
  rw [Zam h,←List.drop_eq_getElem_cons h,List.take_append_drop]
 have p:=List.perm_middle (a:=l.getD k HT.d) (l₁:=l.take k) (l₂:=l.drop (k+1))
 have:l.Perm (l.take k++(l.getD k HT.d::l.drop (k+1))):=by rw [←e]
 exact this.trans p
theorem Zgf (l:List HT) (k:Nat) (h:k<l.length):(less l k).length+1=l.length:=by
 have:=(ZkS l k h).length_eq
 simpa using this.symm
def Zgr (l:List HT):HT:=l.getD (lst l) HT.d
def Zf8 (l:List HT):HT:=Zgr (less l (lst l))
def ZhY (l:List HT):List HT:=less (less l (lst l)) (lst (less l (lst l)))
def ZfX:Nat→List Nat→List HT→List Nat
 | 0,out,_=>out
 | n+1,out,l=>if 1<l.length then ZfX n (ZeH out ((Zgr l).2.2++(Zf8 l).2.2)) (ZhY l++[Zid (Zgr l) (Zf8 l)]) else out
theorem ZvH (l:List HT) (h:1<l.length):l.Perm (Zgr l::Zf8 l::ZhY l)∧(Zgr l).1≤(Zf8 l).1∧(∀e∈ZhY l,(Zf8 l).1≤e.1)∧(ZhY l).length+2=l.length:=by
 obtain ⟨h1,h2⟩:=Zgd l (by omega)
 have p1:=ZkS l (lst l) h1
 have n1:=Zgf l (lst l) h1
 obtain ⟨h3,h4⟩:=Zgd (less l (lst l)) (by omega)
 have p2:=ZkS (less l (lst l)) _ h3
 have n2:=Zgf (less l (lst l)) _ h3
 have pp:l.Perm (Zgr l::Zf8 l::ZhY l):=p1.trans (p2.cons _)
 refine ⟨pp,h2 _ (pp.mem_iff.2 (by simp)),fun e he=>h4 e (p2.mem_iff.2 (List.mem_cons_of_mem _ he)),?_⟩
 unfold ZhY;omega
theorem Zqk.next {out:List Nat} {l:List HT} {T:Nat} {U:List Nat} {tot:Nat} (h:Zqk out l T U tot) (hU:U.Nodup) (htot:tot≤400) (hl:1<l.length) :
  Zqk (ZeH out ((Zgr l).2.2++(Zf8 l).2.2)) (ZhY l++[Zid (Zgr l) (Zf8 l)]) (Zf8 l).1 U tot∧(ZhY l++[Zid (Zgr l) (Zf8 l)]).length+1=l.length:=by
 obtain ⟨p,h1,h2,h3⟩:=ZvH l hl
 refine ⟨((h.of_perm p).step hU htot h1 h2).of_perm ?_,by simp;omega⟩
 exact (List.perm_append_comm (l₁:=[Zid (Zgr l) (Zf8 l)]) (l₂:=ZhY l))
theorem Zk8 {U:List Nat} {tot:Nat} (hU:U.Nodup) (htot:tot≤400):∀(n:Nat) (out:List Nat) (l:List HT) (T:Nat),l.length=n+1→Zqk out l T U tot→
  (ZfX n out l).length=out.length∧(∀i,i<out.length→i∉U→(ZfX n out l).getD i 0=out.getD i 0)∧∃e T',Zqk (ZfX n out l) [e] T' U tot
 | 0,out,l,T,hl,h=>by
  obtain ⟨e,rfl⟩:=List.length_eq_one_iff.1 hl
  exact ⟨rfl,fun _ _ _=>rfl,e,T,h⟩
 | n+1,out,l,T,hl,h=>by
  obtain ⟨h1,h2⟩:=h.next hU htot (by omega)
  have ih:=Zk8 hU htot n _ _ _ (by omega) h1
  rw [ZfX,if_pos (by omega)]
  refine ⟨ih.1.trans (Zax _ _),fun i hi hn=>?_,ih.2.2⟩
  rw [ih.2.1 i (by rw [Zax];exact hi) hn,Zcn _ _ _ hi,List.count_eq_zero.2,Nat.add_zero]
  intro hm
  apply hn
  obtain ⟨p,_⟩:=ZvH l (by omega)
  refine h.perm.mem_iff.1 (List.mem_flatMap.2 ?_)
  rcases List.mem_append.1 hm with hm | hm
  ·exact ⟨_,p.mem_iff.2 (by simp),hm⟩
  ·exact ⟨_,p.mem_iff.2 (by simp),hm⟩
def ZbP (ns:List Nat):List Nat:=(List.range ns.length).filter fun i=>decide (0<ns.getD i 0)
theorem ZiD (n:Nat) (r:List Nat):ZbP (n::r)=(if 0<n then [0] else [])++(ZbP r).map (· + 1):=by
 unfold ZbP
 rw [List.length_cons,List.range_succ_eq_map,List.filter_cons,List.filter_map]
 by_cases h:0<n
 ·rw [if_pos (by simpa using h),if_pos h];rfl
 ·rw [if_neg (by simpa using h),if_neg h];rfl
theorem ZfH:∀ns,Zeo ns=(ZbP ns).length
 | []=>rfl
 | n::r=>by
  rw [ZiD,Zeo,ZfH r]
  by_cases h:0<n
  ·rw [if_pos h,if_pos h];simp;omega
  ·rw [if_neg h,if_neg h];simp
theorem ZhI:∀ns,Zbm ns=ZiH ns (ZbP ns)
 | []=>rfl
 | n::r=>by
  have e:ZiH (n::r) ((ZbP r).map (· + 1))=ZiH r (ZbP r):=by
   unfold ZiH;rw [List.map_map];rfl
  rw [ZiD,Zbm,ZhI r,Zhz,e]
  by_cases h:0<n
  ·rw [if_pos h,if_pos h];simp [ZiH]
  ·rw [if_neg h,if_neg h];simp [ZiH]
theorem Zkp:∀ns:List Nat,((ZbP ns).map fun i=>ns.getD i 0).sum=ns.sum
 | []=>rfl
 | n::r=>by
  have e:(((ZbP r).map (· + 1)).map fun i=>(n::r).getD i 0)=(ZbP r).map fun i=>r.getD i 0:=by rw [List.map_map];rfl
  rw [ZiD,List.map_append,e,List.sum_append,Zkp r,List.sum_cons]
  by_cases h:0<n
  ·rw [if_pos h];simp
  ·rw [if_neg h];simp;omega
theorem Zci (ns:List Nat) (i:Nat):i∈ZbP ns↔i<ns.length∧0<ns.getD i 0:=by
 simp [ZbP]
theorem Zhx (ns:List Nat):(ZbP ns).Nodup:=List.Pairwise.filter _ List.nodup_range
def Zfm (cs:List Nat):List HT:=(ZbP cs).map fun i=>(cs.getD i 0,i,[i])
def Zdj (cs:List Nat):List Nat:=
 if (ZbP cs).length=1 then (List.replicate cs.length 0).set ((ZbP cs).getD 0 0) 1 else ZfX ((ZbP cs).length-1) (List.replicate cs.length 0) (Zfm cs)
theorem Zc1 (n i:Nat):(List.replicate n 0).getD i 0=0:=by
 by_cases h:i<n
 ·rw [Zam (by simpa using h)];simp
 ·simp [List.getD,Nat.le_of_not_lt h]
theorem Zi0 (cs:List Nat):Zqk (List.replicate cs.length 0) (Zfm cs) 0 (ZbP cs) cs.sum:=by
 refine ⟨fun e he=>?_,?_,?_⟩
 ·obtain ⟨i,hi,rfl⟩:=List.mem_map.1 he
  obtain ⟨h1,h2⟩:=(Zci cs i).1 hi
  refine ⟨by simp,fun s hs=>?_,fun s hs=>?_,?_,⟨0,fun s hs=>?_,?_,fun h=>?_⟩,Nat.zero_le _⟩
  ·have:s=i:=by simpa using hs
   subst this;exact Nat.le_refl _
  ·have:s=i:=by simpa using hs
   subst this;simpa using h1
  ·simp only [ZiH,List.map_cons,List.map_nil,List.sum_cons,List.sum_nil,Zc1];rfl
  ·rw [Zc1];exact Nat.le_refl _
  ·show 1≤cs.getD i 0;omega
  ·omega
 ·unfold Zfm
  rw [List.flatMap_map]
  have:∀l:List Nat,(l.flatMap fun i=>[i])=l:=fun l=>by induction l<;>simp_all
  rw [this]
 ·unfold Zfm
  rw [List.map_map]
  exact Zkp cs
structure LOk (cs out:List Nat) (d:Nat):Prop where
 len:out.length=cs.length
 pos:∀i,0<cs.getD i 0↔0<out.getD i 0
 le:∀n∈out,n≤d
 ok:Zbm out=32768∨Zeo out=1∧Zbm out=16384
theorem Zhy (cs out:List Nat) (h:out.length=cs.length) (hp:∀i,0<cs.getD i 0↔0<out.getD i 0):ZbP out=ZbP cs:=by
 unfold ZbP
 rw [h]
 exact List.filter_congr fun i _=>by simp only [decide_eq_decide];exact (hp i).symm
theorem Zrl (out:List Nat):∀S:List Nat,S≠[]→0<ZiH out S
 | [],h=>absurd rfl h
 | s::S,_=>by
  have:=Nat.two_pow_pos (15-out.getD s 0)
  simp only [ZiH,List.map_cons,List.sum_cons];omega
theorem Zj9 (cs:List Nat) (h0:ZbP cs≠[]) (ht:cs.sum≤400):∃d,d≤12∧LOk cs (Zdj cs) d∧(d≤1∨Zin (d+2)≤cs.sum):=by
 have hU:=Zhx cs
 by_cases h1:(ZbP cs).length=1
 ·obtain ⟨k,hk⟩:=List.length_eq_one_iff.1 h1
  have hm:k<cs.length∧0<cs.getD k 0:=(Zci cs k).1 (by rw [hk];simp)
  have e:Zdj cs=(List.replicate cs.length 0).set k 1:=by unfold Zdj;rw [if_pos h1,hk];rfl
  have hlen:(Zdj cs).length=cs.length:=by rw [e];simp
  have hget:∀i,(Zdj cs).getD i 0=if i=k then 1 else 0:=fun i=>by
   rw [e]
   by_cases hi:i<cs.length
   ·rw [Zam (by simpa using hi),List.getElem_set]
    by_cases c:k=i
    ·rw [if_pos c,if_pos c.symm]
    ·rw [if_neg c,if_neg (fun x=>c x.symm)];simp
   ·rw [if_neg (by omega)]
    simp [List.getD,Nat.le_of_not_lt hi]
  have hpos:∀i,0<cs.getD i 0↔0<(Zdj cs).getD i 0:=fun i=>by
   rw [hget i]
   constructor
   ·intro h
    have hi:i<cs.length:=by
     rcases Nat.lt_or_ge i cs.length with h' | h'
     ·exact h'
     ·rw [show cs.getD i 0=0 by simp [List.getD,h']] at h;omega
    have:i∈ZbP cs:=(Zci cs i).2 ⟨hi,h⟩
    rw [hk] at this
    rw [if_pos (by simpa using this)];omega
   ·intro h
    by_cases c:i=k
    ·rw [c];exact hm.2
    ·rw [if_neg c] at h;omega
  have hc:=Zhy cs (Zdj cs) hlen hpos
  refine ⟨1,by omega,⟨hlen,hpos,fun n hn=>?_,.inr ⟨by rw [ZfH,hc];exact h1,?_⟩⟩,.inl (Nat.le_refl _)⟩
  ·obtain ⟨j,hj,rfl⟩:=List.getElem_of_mem hn
   have:=hget j
   rw [Zam hj] at this
   rw [this];split<;>omega
  ·rw [ZhI,hc,hk]
   simp only [ZiH,List.map_cons,List.map_nil,List.sum_cons,List.sum_nil,hget,if_true];rfl
 ·have hn:0<(ZbP cs).length:=List.length_pos_iff.2 h0
  have e:Zdj cs=ZfX ((ZbP cs).length-1) (List.replicate cs.length 0) (Zfm cs):=by unfold Zdj;rw [if_neg h1]
  obtain ⟨l1,l2,t,T',hI⟩:=Zk8 hU ht ((ZbP cs).length-1) (List.replicate cs.length 0) (Zfm cs) 0 (by simp [Zfm];omega) (Zi0 cs)
  rw [←e] at l1 l2 hI
  rw [List.length_replicate] at l1 l2
  have tok:=hI.all t (by simp)
  obtain ⟨d,d1,d2,d3⟩:=tok.dep
  have hts:t.1=cs.sum:=by simpa using hI.sum
  have hpp:t.2.2.Perm (ZbP cs):=by simpa using hI.perm
  have hkr:ZiH (Zdj cs) (ZbP cs)=32768:=by
   have:=Zrj (fun s=>2^(15-(Zdj cs).getD s 0)) hpp
   unfold ZiH;rw [←this];exact tok.kr
  have hd:d≤12:=Zim d2 (by omega)
  have hpos:∀i,0<cs.getD i 0↔0<(Zdj cs).getD i 0:=fun i=>by
   constructor
   ·intro h
    have hi:i<cs.length:=by
     rcases Nat.lt_or_ge i cs.length with h' | h'
     ·exact h'
     ·rw [show cs.getD i 0=0 by simp [List.getD,h']] at h;omega
    have hmem:i∈ZbP cs:=(Zci cs i).2 ⟨hi,h⟩
    rcases Nat.eq_zero_or_pos ((Zdj cs).getD i 0) with hz | hz
    ·obtain ⟨a,b,hab⟩:=List.append_of_mem hmem
     rw [hab,Zhz] at hkr
     have ec:ZiH (Zdj cs) (i::b)=32768+ZiH (Zdj cs) b:=by simp only [ZiH,List.map_cons,List.sum_cons,hz]
     have ha:a=[]:=by
      rcases Classical.em (a=[]) with h' | h'
      ·exact h'
      ·have:=Zrl (Zdj cs) a h';omega
     have hb:b=[]:=by
      rcases Classical.em (b=[]) with h' | h'
      ·exact h'
      ·have:=Zrl (Zdj cs) b h';omega
     rw [hab,ha,hb] at h1
     exact absurd rfl h1
    ·exact hz
   ·intro h
    rcases Nat.lt_or_ge i cs.length with hi | hi
    ·rcases Classical.em (i∈ZbP cs) with hm | hm
     ·exact ((Zci cs i).1 hm).2
     ·rw [l2 i hi hm,Zc1] at h;omega
    ·rw [show (Zdj cs).getD i 0=0 by simp [List.getD,l1,hi]] at h;omega
  have hc:=Zhy cs (Zdj cs) l1 hpos
  refine ⟨d,hd,⟨l1,hpos,fun n hn=>?_,.inl (by rw [ZhI,hc];exact hkr)⟩,.inr (by rw [←hts];exact d2)⟩
  obtain ⟨j,hj,rfl⟩:=List.getElem_of_mem hn
  rcases Classical.em (j∈ZbP cs) with hm | hm
  ·have:=d1 j (hpp.mem_iff.2 hm)
   rwa [Zam hj] at this
  ·have:=l2 j (by omega) hm
   rw [Zam hj,Zc1] at this
   omega
end Ev
end
